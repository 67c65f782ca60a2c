/- Of the proof of a law of the suites: LibIAr, LBuild. -/
import Derived.Test.YtegenalcheooeaaGreatB03
import Derived.Test.YtegenalcheooeaaGreatB06
import Derived.Test.YtegenalcheooeaaGreatB28
/- slices.IndexFunc and ContainsFunc at each element type of the program: what they come to, whatever function value they are given. -/
set_option linter.unusedSectionVars false
set_option linter.unusedSimpArgs false
set_option linter.unusedVariables false
namespace Go.Proofs.YtegenalcheooeaaGreat
open Go.RowKit
attribute [local go_sem] cell?_exto

set_option maxHeartbeats 1000000 in
set_option maxRecDepth 100000 in
/-- slices.IndexFunc at Ar: the function may keep a state s, told by J. -/
theorem idxFAr {σ : Type} (J : σ → World → Prop) (step : σ → Ar → Bool × σ) (S : Nat → Prop) (w : World) (xs : List (Ar)) (v : Value) (hx : RSl RAr 4 S w xs [v]) (g : Nat) (lb : Array Value)
    (eg : ∀ args w, (callFunc g args).run Tryz.prog w = .ok (.enter g args) w) (hJ : ∀ s W, J s W → Kp S w W)
    (hp : ∀ x ∈ xs, ∀ s cs W, J s W → RAr S W x cs → Calls Tryz.prog g (#[.agg cs.toArray] ++ lb) W fun e w' => e = .returned (.bool (step s x).1) ∧ J (step s x).2 w') (s0 : σ) (h0 : J s0 w) :
    Calls Tryz.prog 244 #[v, .func (.func g) #[] lb] w fun e w' => e = .returned (.int .i64 (findS step s0 xs).1) ∧ J (findS step s0 xs).2 w' := by
  obtain ⟨A, c, rfl, hc, hc0⟩ := hx.val
  have HX := Lib.hid hx
  have HP := Lib.hid hp
  have HJ := Lib.hid hJ
  clear hx hp hJ
  go_enter Tryz.func244, Tryz.ntmps244
  go_wp2
  go_loopw [5, 8] (fun _ i wr => ∃ k : Nat, k ≤ xs.length ∧ i = .int .i64 k ∧ Hid (∃ s, J s wr ∧ findS step s0 xs = ((findS step s (xs.drop k)).1 + (if (findS step s (xs.drop k)).1 < 0 then 0 else (k : Int)), (findS step s (xs.drop k)).2))) (fun _ i _ => xs.length - (intOf i).toNat)
  case atStart => exact ⟨0, Nat.zero_le _, rfl, s0, h0, by simp⟩
  case round =>
    obtain ⟨k, hk, rfl, s, hs, hf⟩ := hrel
    by_cases hlt : k < xs.length
    · obtain ⟨b, off, cs, rfl, hb, hS, hl, hr, hcell⟩ := ((RSl.good RAr.good).move HX.out (HJ.out _ _ hs)).get k hlt
      have hcon := HP.out xs[k] (List.getElem_mem hlt) s cs wr hs hr
      obtain ⟨c0, c1, c2, c3, rfl⟩ : ∃ c0 c1 c2 c3, cs = [c0, c1, c2, c3] := by
        match cs, hl with
        | [c0, c1, c2, c3], _ => exact ⟨c0, c1, c2, c3, rfl⟩
      have g0 := (by simpa using hcell.get 0 _ : wr.cell? ⟨b, off + k * 4, none⟩ = some c0)
      have g1 := hcell.get 1 _
      have g2 := hcell.get 2 _
      have g3 := hcell.get 3 _
      rw [List.drop_eq_getElem_cons hlt, findS] at hf
      clear hcell hl hS hr
      cases hq : (step s xs[k]).1 with
      | true =>
        rw [hq] at hcon hf
        have Hf := Lib.hid hf
        clear hf
        go_wp2_with fail
        refine hcon.mono ?_
        rintro e w' ⟨rfl, hs'⟩
        go_wp2_with fail
        go_ret
        rw [Hf.out]
        exact ⟨by simp, hs'⟩
      | false =>
        rw [hq] at hcon hf
        have Hf := Lib.hid hf
        clear hf
        go_wp2_with fail
        refine hcon.mono ?_
        rintro e w' ⟨rfl, hs'⟩
        go_wp2_with fail
        go_roundw
        case rel =>
          refine ⟨k + 1, by omega, by go_num, _, hs', ?_⟩
          rw [Hf.out]
          exact findS_next _ _
        case measure => simp [intOf]; omega
    · have hd : xs.drop k = [] := List.drop_of_length_le (by omega)
      rw [hd, findS] at hf
      have Hf := Lib.hid hf
      clear hf
      go_wp2
      go_ret
      rw [Hf.out]
      exact ⟨by simp, hs⟩

set_option maxHeartbeats 1000000 in
set_option maxRecDepth 100000 in
/-- slices.ContainsFunc at Ar. -/
theorem conFAr {σ : Type} (J : σ → World → Prop) (step : σ → Ar → Bool × σ) (S : Nat → Prop) (w : World) (xs : List (Ar)) (v : Value) (hx : RSl RAr 4 S w xs [v]) (g : Nat) (lb : Array Value)
    (eg : ∀ args w, (callFunc g args).run Tryz.prog w = .ok (.enter g args) w) (hJ : ∀ s W, J s W → Kp S w W)
    (hp : ∀ x ∈ xs, ∀ s cs W, J s W → RAr S W x cs → Calls Tryz.prog g (#[.agg cs.toArray] ++ lb) W fun e w' => e = .returned (.bool (step s x).1) ∧ J (step s x).2 w') (s0 : σ) (h0 : J s0 w) :
    Calls Tryz.prog 202 #[v, .func (.func g) #[] lb] w fun e w' => e = .returned (.bool (anyS step s0 xs).1) ∧ J (anyS step s0 xs).2 w' := by
  obtain ⟨A, c, rfl, hc, hc0⟩ := hx.val
  have hcon := idxFAr J step S w xs _ hx g lb eg hJ hp s0 h0
  rw [anyS_find]
  clear hx hp hJ
  go_enter Tryz.func202, Tryz.ntmps202
  go_wp2_with fail
  refine hcon.mono ?_
  rintro e w' ⟨rfl, hs'⟩
  go_wp2_with fail
  all_goals go_ret
  all_goals exact ⟨by simp, hs'⟩

/-- The same, where the function tells p and only adds to memory. -/
theorem conPAr (p : Ar → Bool) (S : Nat → Prop) (w : World) (xs : List (Ar)) (v : Value) (hx : RSl RAr 4 S w xs [v]) (g : Nat) (lb : Array Value)
    (eg : ∀ args w, (callFunc g args).run Tryz.prog w = .ok (.enter g args) w)
    (hp : ∀ x ∈ xs, ∀ cs W, Ext w W → RAr S W x cs → Calls Tryz.prog g (#[.agg cs.toArray] ++ lb) W fun e w' => e = .returned (.bool (p x)) ∧ Ext W w') :
    Calls Tryz.prog 202 #[v, .func (.func g) #[] lb] w fun e w' => e = .returned (.bool (xs.any p)) ∧ Ext w w' :=
  (conFAr (fun (_ : Unit) W => Ext w W) (fun s x => (p x, s)) S w xs v hx g lb eg (fun _ _ h => Ext.kp h) (fun x hx s cs W hW hr => (hp x hx cs W hW hr).mono fun e w' ⟨he, hb⟩ => ⟨he, hW.trans' hb⟩) () (Ext.refl w)).mono
    fun e w' ⟨he, hb⟩ => ⟨by rw [he, anyS_pure], hb⟩
theorem idxPAr (p : Ar → Bool) (S : Nat → Prop) (w : World) (xs : List (Ar)) (v : Value) (hx : RSl RAr 4 S w xs [v]) (g : Nat) (lb : Array Value)
    (eg : ∀ args w, (callFunc g args).run Tryz.prog w = .ok (.enter g args) w)
    (hp : ∀ x ∈ xs, ∀ cs W, Ext w W → RAr S W x cs → Calls Tryz.prog g (#[.agg cs.toArray] ++ lb) W fun e w' => e = .returned (.bool (p x)) ∧ Ext W w') :
    Calls Tryz.prog 244 #[v, .func (.func g) #[] lb] w fun e w' => e = .returned (.int .i64 (findI p xs)) ∧ Ext w w' :=
  (idxFAr (fun (_ : Unit) W => Ext w W) (fun s x => (p x, s)) S w xs v hx g lb eg (fun _ _ h => Ext.kp h) (fun x hx s cs W hW hr => (hp x hx cs W hW hr).mono fun e w' ⟨he, hb⟩ => ⟨he, hW.trans' hb⟩) () (Ext.refl w)).mono
    fun e w' ⟨he, hb⟩ => ⟨by rw [he, findS_pure], hb⟩
end Go.Proofs.YtegenalcheooeaaGreat

/- lts.Build where all is well: walked. -/
set_option linter.unusedSectionVars false
set_option linter.unusedSimpArgs false
set_option linter.unusedVariables false
namespace Go.Proofs.YtegenalcheooeaaGreat
open Go.RowKit
attribute [local go_sem] cell?_exto
open Go.Shelf

def addAll : List Ar → List Lb → List Ed → List Lb × List Ed
  | [], ls, es => (ls, es)
  | a :: rs, ls, es => addAll rs (addLb ls a.l) (es ++ [⟨a.f, (ls.idxOf a.l : Int), a.t⟩])
theorem addAll_snoc (a : Ar) : ∀ (rs : List Ar) (ls : List Lb) (es : List Ed), addAll (rs ++ [a]) ls es = (addLb (addAll rs ls es).1 a.l, (addAll rs ls es).2 ++ [⟨a.f, ((addAll rs ls es).1.idxOf a.l : Int), a.t⟩])
  | [], _, _ => rfl
  | x :: rs, ls, es => by rw [List.cons_append, addAll, addAll_snoc a rs, addAll]
theorem addAll_len : ∀ (rs : List Ar) (ls : List Lb) (es : List Ed), (addAll rs ls es).1.length ≤ ls.length + rs.length ∧ (addAll rs ls es).2.length = es.length + rs.length
  | [], ls, es => ⟨Nat.le_refl _, rfl⟩
  | a :: rs, ls, es => by
    have h := addAll_len rs (addLb ls a.l) (es ++ [⟨a.f, (ls.idxOf a.l : Int), a.t⟩])
    have h2 := addLb_len ls a.l
    rw [List.length_append, List.length_singleton] at h
    rw [addAll, List.length_cons]
    omega
theorem addAll_ok : ∀ (rs : List Ar) (ls : List Lb) (es : List Ed), (∀ a ∈ rs, okLb a.l = true) → (∀ x ∈ ls, okLb x = true) → ∀ x ∈ (addAll rs ls es).1, okLb x = true
  | [], _, _, _, h => h
  | a :: rs, ls, es, h, h' => addAll_ok rs _ _ (fun b hb => h b (List.mem_cons_of_mem _ hb)) (addLb_ok (h a (List.mem_cons_self ..)) h')
theorem idxOf_addLb (ls : List Lb) (x : Lb) : ls.idxOf x < (addLb ls x).length := by
  unfold addLb
  split
  · rename_i h; exact List.idxOf_lt_length_of_mem h
  · rename_i h
    have := List.idxOf_le_length (a := x) (l := ls)
    simp
    omega
theorem addAll_ix : ∀ (rs : List Ar) (ls : List Lb) (es : List Ed), (∀ e ∈ es, 0 ≤ e.l ∧ e.l < ls.length) → ∀ e ∈ (addAll rs ls es).2, 0 ≤ e.l ∧ e.l < (addAll rs ls es).1.length
  | [], _, _, h => h
  | a :: rs, ls, es, h => addAll_ix rs _ _ fun e he => by
    have hle : ls.length ≤ (addLb ls a.l).length := by unfold addLb; split <;> simp
    rcases List.mem_append.1 he with he | he
    · have := h e he; omega
    · rw [List.mem_singleton.1 he]
      have := idxOf_addLb ls a.l
      exact ⟨by show (0 : Int) ≤ (ls.idxOf a.l : Int); omega, by show (ls.idxOf a.l : Int) < _; omega⟩
def buildS (n : Int) (rs : List Ar) : Sy := usedS n (addAll rs [] []).1 (addAll rs [] []).2

theorem eg203 : ∀ args w, (callFunc 203 args).run Tryz.prog w = .ok (.enter 203 args) w := enters_of Tryz.func203 (by kernel_rfl) rfl
set_option maxHeartbeats 1000000 in
set_option maxRecDepth 100000 in
theorem build1_c (n x : Int) (h1 : 0 ≤ x) (h2 : x < n) (Bn : Nat) (w : World) (h : w.cell? ⟨Bn, 0, none⟩ = some (.int .i64 n)) : Calls Tryz.prog 201 #[.int .i64 x, .pointer (some ⟨Bn, 0, none⟩)] w fun e w' => e = .returned (.bool true) ∧ Ext w w' := by
  go_enter Tryz.func201, Tryz.ntmps201
  go_wp2_with fail
  go_ret
  exact ⟨rfl, Ext.refl _⟩
set_option maxHeartbeats 1000000 in
set_option maxRecDepth 100000 in
theorem build2_c (S : Nat → Prop) (n : Int) (a : Ar) (ha : (0 ≤ a.f ∧ a.f < n) ∧ 0 ≤ a.t ∧ a.t < n) (Bn Bf : Nat) (cs : List Value) (w : World) (h : w.cell? ⟨Bn, 0, none⟩ = some (.int .i64 n)) (hf : w.cell? ⟨Bf, 0, none⟩ = some (.func (.func 201) #[] #[.pointer (some ⟨Bn, 0, none⟩)])) (hx : RAr S w a cs) :
    Calls Tryz.prog 203 #[.agg cs.toArray, .pointer (some ⟨Bf, 0, none⟩)] w fun e w' => e = .returned (.bool false) ∧ Ext w w' := by
  obtain ⟨i1, i2, v, rfl, i3, hv⟩ := hx
  obtain ⟨A, c, rfl, _, _⟩ := hv.val
  have h1 := fun W (hW : Ext w W) => build1_c n a.f ha.1.1 ha.1.2 Bn W (Ext.keep hW h)
  have h2 := fun W (hW : Ext w W) => build1_c n a.t ha.2.1 ha.2.2 Bn W (Ext.keep hW h)
  have hBf := World.block_lt_of_cell? w _ hf
  have hBn := World.block_lt_of_cell? w _ h
  clear hv ha
  go_enter Tryz.func203, Tryz.ntmps203
  go_wp2_with fail
  refine (h1 _ (by repeat (first | exact Ext.refl _ | apply Ext.alloc | apply Below.drew | apply Ext.drewN | refine Ext.trans' ?_ (by assumption) | refine Ext.trans' ?_ (ExtD.ext (by assumption))))).mono ?_
  rintro e w1 ⟨rfl, hx1⟩
  have hc1 := hx1.cells
  have hz1 := hx1.size
  go_wp2_with fail
  refine (h2 _ (by repeat (first | exact Ext.refl _ | apply Ext.alloc | apply Below.drew | apply Ext.drewN | refine Ext.trans' ?_ (by assumption) | refine Ext.trans' ?_ (ExtD.ext (by assumption))))).mono ?_
  rintro e w2 ⟨rfl, hx2⟩
  go_wp2_with fail
  go_ret
  exact ⟨rfl, (by repeat (first | exact Ext.refl _ | apply Ext.alloc | apply Below.drew | apply Ext.drewN | refine Ext.trans' ?_ (by assumption) | refine Ext.trans' ?_ (ExtD.ext (by assumption))))⟩

def BuildPost (n : Int) (rs : List Ar) (w : World) (e : Ending) (w' : World) : Prop := ∃ cs, e = .returned (.tuple #[.agg cs.toArray, .int .i64 0]) ∧ RSy (fun b => w.heap.size ≤ b) w' (buildS n rs) cs ∧ Ext w w'
set_option maxHeartbeats 1000000 in
set_option maxRecDepth 100000 in
theorem build_c (S : Nat → Prop) (n : Int) (hn : 1 ≤ n ∧ n ≤ 20000) (rs : List Ar) (v : Value) (w : World) (hx : RSl RAr 4 S w rs [v]) (hin : ∀ a ∈ rs, (0 ≤ a.f ∧ a.f < n) ∧ 0 ≤ a.t ∧ a.t < n) (hok : ∀ a ∈ rs, okLb a.l = true ∧ a.l.size ≤ 1000000000) (hlen : rs.length ≤ 100000)
    (hl : (addAll rs [] []).1.length ≤ 12) (hnd : noDup (sortB cmpEd (edR (addAll rs [] []).1 (addAll rs [] []).2))) : Calls Tryz.prog 135 #[.int .i64 n, v] w (BuildPost n rs w) := by
  obtain ⟨A, c, rfl, hc, hc0⟩ := hx.val
  have hx2 : RSl RAr 4 (fun q => q < w.heap.size) w rs [.slice A rs.length c] := (RSl.good RAr.good).mono hx fun b hb _ => hb
  have HX := Lib.hid hx2
  have HIN := Lib.hid hin
  have HOK := Lib.hid hok
  have HND := Lib.hid hnd
  have hn1 := hn.1
  have hn2 := hn.2
  have hany : rs.any (fun _ => false) = false := by simp
  have hcon := fun (W : World) (Bn Bf : Nat) (hW : Ext w W) (h1 : W.cell? ⟨Bn, 0, none⟩ = some (.int .i64 n)) (h2 : W.cell? ⟨Bf, 0, none⟩ = some (.func (.func 201) #[] #[.pointer (some ⟨Bn, 0, none⟩)])) =>
    conPAr (fun _ => false) (fun q => q < w.heap.size) W rs _ ((RSl.good RAr.good).bel hx2 hW) 203 #[.pointer (some ⟨Bf, 0, none⟩)] eg203 (fun x hx cs W' hW' hr => build2_c _ n x (hin x hx) Bn Bf cs W' (Ext.keep hW' h1) (Ext.keep hW' h2) hr)
  rw [hany] at hcon
  have hd1 : decide (n < 1) = false := decide_eq_false (by omega)
  have hd2 : decide (20000 < n) = false := decide_eq_false (by omega)
  clear hx hx2 hin hok hnd hany hn
  go_enter Tryz.func135, Tryz.ntmps135
  go_wp2_with fail
  obtain ⟨W3, hW3⟩ : ∃ W3, ((w.alloc (.cells #[.int .i64 n] 3)).alloc (.cells #[.int .i64 0, .slice none 0 0, .slice none 0 0] 25)).alloc (.cells #[.func (.func 201) #[] #[.pointer (some ⟨w.heap.size, 0, none⟩)]] 78) = W3 := ⟨_, rfl⟩
  have hX3 : Ext w W3 := by rw [← hW3]; exact (((Ext.refl w).alloc _).alloc _).alloc _
  have hs3 : W3.heap.size = w.heap.size + 3 := by rw [← hW3]; simp
  have b0 : BoxL W3 w.heap.size 3 [.int .i64 n] := by
    show W3.heap[_]? = _
    rw [← hW3, Below.heap_alloc _ _ _ (by simp; omega), Below.heap_alloc _ _ _ (by simp)]
    exact World.alloc_heap_new _ _
  have b1 : BoxL W3 (w.heap.size + 1) 25 [.int .i64 0, .slice none 0 0, .slice none 0 0] := by rw [← hW3]; exact alloc3_1 ..
  have b2 : BoxL W3 (w.heap.size + 1 + 1) 78 [.func (.func 201) #[] #[.pointer (some ⟨w.heap.size, 0, none⟩)]] := by rw [← hW3]; exact alloc3_2 ..
  rw [hW3]
  clear hW3
  refine (hcon W3 w.heap.size (w.heap.size + 1 + 1) hX3 (b0.cell 0 _) (b2.cell 0 _)).mono ?_
  rintro e w1 ⟨rfl, hx1⟩
  have hX1 : Ext w w1 := hX3.trans' hx1
  have n0 := (b0.ext hx1).cell 0 _
  have n0l := (b0.ext hx1).lt
  have HBr := Lib.hid (b1.ext hx1)
  have hsz1 := hx1.size
  clear hcon b0 b1 b2 hx1
  go_wp2_with fail
  obtain ⟨B, hB⟩ : ∃ B, w1.heap.size = B := ⟨_, rfl⟩
  obtain ⟨W4, hW4⟩ : ∃ W4, w1.alloc (.cells #[.map none, .slice none 0 0, .slice none 0 0] 235) = W4 := ⟨_, rfl⟩
  have hX4 : Ext w1 W4 := by rw [← hW4]; exact (Ext.refl w1).alloc _
  have hb4 : BoxL W4 B 235 [.map none, .slice none 0 0, .slice none 0 0] := by rw [← hW4, ← hB]; exact World.alloc_heap_new _ _
  have hs4 : W4.heap.size = B + 1 := by rw [← hW4, ← hB]; simp
  rw [hW4, hB]
  clear hW4
  have HA0 : Hid (ArcsM (B + 1) B [] [] (.slice none 0 0) W4) := ⟨by omega, none, .slice none 0 0, fun _ => False, hb4, ROwn.nil .., ROwn.nil .., fun _ h => h.elim, fun _ h => by simp [Value.ownBlock] at h, .inl ⟨rfl, rfl⟩⟩
  have HM : Hid (W3.heap.size ≤ B ∧ W3.heap.size = w.heap.size + 3 ∧ w1.heap.size = B ∧ W4.heap.size = B + 1) := by show _ ∧ _; omega
  have HX4 := Lib.hid hX4
  have HX1 := Lib.hid hX1
  have n4 := Ext.keep hX4 n0
  have HBr4 := Lib.hid (HBr.out.ext hX4)
  clear hX4 hb4 hs4 hB hX1 hsz1 hs3 hX3 n0
  go_loopw [27] (fun vi wr => ∃ (k : Nat) (ve : Value), k ≤ rs.length ∧ vi = .int .i64 k ∧ Hid (Bt (fun q => q = B ∨ B + 1 ≤ q) W4 wr) ∧ Hid (ArcsM (B + 1) B (addAll (rs.take k) [] []).1 (addAll (rs.take k) [] []).2 ve wr)) (fun vi _ => rs.length - (intOf vi).toNat)
  case atStart => exact ⟨0, _, Nat.zero_le _, rfl, Bt.refl _ _, HA0.out⟩
  case round =>
    obtain ⟨k, ve, hk, rfl, hB4, hA⟩ := hrel
    by_cases hlt : k < rs.length
    · have hKp : Kp (fun q => q < w.heap.size) w wr := ((HX1.out.trans' HX4.out).kp).trans (hB4.out.kp fun q _ h h' => by have := HM.out; omega)
      obtain ⟨b, off, cs, rfl, hb, hSb, hl, hr, hcell⟩ := HX.out.get k hlt
      have hrx := RAr.good.move hr hKp
      obtain ⟨i1, i2, u, rfl, i3, hu⟩ := id hrx
      obtain ⟨Au, cu, rfl, _, _⟩ := hu.val
      have a0 := hKp.cell (hcell.get 0 _) hSb
      have a1 := hKp.cell (hcell.get 1 _) hSb
      have a2 := hKp.cell (hcell.get 2 _) hSb
      have a3 := hKp.cell (hcell.get 3 _) hSb
      simp only [Nat.add_zero] at a0
      have hok := HOK.out _ (List.getElem_mem hlt)
      have hin := HIN.out _ (List.getElem_mem hlt)
      have hlb : RLb (fun q => q < w.heap.size) wr rs[k].l [.int .i64 rs[k].l.g, .slice Au rs[k].l.v.length cu] := ⟨i3, _, rfl, hu⟩
      have hck := fun W (hW : Ext wr W) => CheckLabel_c _ _ _ W (RLb.good.bel hlb hW)
      rw [ckLb, if_pos hok.1] at hck
      have hal := addAll_len (rs.take k) [] []
      simp only [List.length_take, List.length_nil] at hal
      have hsn := addAll_snoc rs[k] (rs.take k) [] []
      rw [← List.take_succ_eq_append_getElem hlt] at hsn
      have hadd := fun W (hW : Ext wr W) => add_c (fun q => q < w.heap.size) (B + 1) B (addAll (rs.take k) [] []).1 (addAll (rs.take k) [] []).2 ve rs[k].l rs[k].f rs[k].t i1 i2 hok.1
        (addAll_ok _ _ _ (fun a ha => (HOK.out a (List.mem_of_mem_take ha)).1) (by simp)) hok.2 (by omega) (by omega) _ W (fun q hq => by have := HM.out; omega) (by have := HM.out; have := hB4.out.size; have := hW.size; omega) (hA.out.ext hW) (RLb.good.bel hlb hW)
      have HSN := Lib.hid hsn
      have HADD := Lib.hid hadd
      obtain ⟨x, hxe⟩ : ∃ x, rs[k] = x := ⟨_, rfl⟩
      rw [hxe] at a0 a1 a2 a3 hck HADD HSN
      clear hrx hr hu hlb hcell hl hSb hok hin hsn hadd hxe hal i1 i2 i3
      go_wp2_with fail
      refine (hck _ (by repeat (first | exact Ext.refl _ | apply Ext.alloc | apply Below.drew | apply Ext.drewN | refine Ext.trans' ?_ (by assumption) | refine Ext.trans' ?_ (ExtD.ext (by assumption))))).mono ?_
      rintro e w5 ⟨rfl, h5⟩
      have hc5 := h5.cells
      have hz5 := h5.size
      go_wp2_with fail
      refine (HADD.out _ (by repeat (first | exact Ext.refl _ | apply Ext.alloc | apply Below.drew | apply Ext.drewN | refine Ext.trans' ?_ (by assumption) | refine Ext.trans' ?_ (ExtD.ext (by assumption))))).mono ?_
      rintro e w6 ⟨rfl, ve', hA6, hb6⟩
      have HA6 := Lib.hid hA6
      have hx65 : Ext wr w5 := (by repeat (first | exact Ext.refl _ | apply Ext.alloc | apply Below.drew | apply Ext.drewN | refine Ext.trans' ?_ (by assumption) | refine Ext.trans' ?_ (ExtD.ext (by assumption))))
      have HB6 : Hid (Bt (fun q => q = B ∨ B + 1 ≤ q) W4 w6) := (hB4.out.ext hx65).trans hb6
      clear hA6 hb6 hc5
      go_wp2_with fail
      go_roundw
      case rel => exact ⟨k + 1, ve', by omega, by go_num, HB6.out, by show ArcsM _ _ _ _ _ _; rw [HSN.out]; exact HA6.out⟩
      case measure => simp [intOf]; omega
    · obtain rfl : k = rs.length := by omega
      have htk : rs.take rs.length = rs := List.take_length
      rw [htk] at hA
      have hal := addAll_len rs [] []
      have hus := used_c (B + 1) B (addAll rs [] []).1 (addAll rs [] []).2 ve n (by unfold I64; omega) wr (by have := HM.out; have := hB4.out.size; omega) hA.out hl (by have := hal.2; simp only [List.length_nil] at this; omega) (addAll_ix rs [] [] (by simp)) HND.out
      have hn5 := hB4.out.cell n4 (by have := HM.out; show ¬ (w.heap.size = B ∨ B + 1 ≤ w.heap.size); omega)
      have hBr5 := HBr4.out.bt hB4.out (by have := HM.out; omega)
      clear htk hk
      go_wp2_with fail
      refine hus.mono ?_
      rintro e w9 ⟨cs, rfl, hsy, hx9⟩
      obtain ⟨sy, hsye⟩ : ∃ sy, usedS n (addAll rs [] []).1 (addAll rs [] []).2 = sy := ⟨_, rfl⟩
      rw [hsye] at hsy
      have HSE : Hid (buildS n rs = sy) := hsye
      clear hsye
      obtain ⟨j1, v1, v2, rfl, hv1, hv2⟩ := id hsy
      obtain ⟨A1, c1, rfl, _, _⟩ := hv1.val
      obtain ⟨A2, c2, rfl, _, _⟩ := hv2.val
      have HSY := Lib.hid hsy
      have hR9 := hBr5.ext hx9
      have r0 := hR9.cell 0 _
      have r1 := hR9.cell 1 _
      have r2 := hR9.cell 2 _
      have rz0 := hR9.frozen 0
      have rz1 := hR9.frozen 1
      have rz2 := hR9.frozen 2
      have hRl := hR9.lt
      have HR9 := Lib.hid hR9
      have HF9 : Hid (Ext w w9) := Bt.new (HX1.out.trans' HX4.out) (hB4.out.ext hx9) fun q _ h => by have := HM.out; omega
      clear hus hv1 hv2 hsy hBr5 hR9 hA hal
      go_wp2_with fail
      have hB3 := ((HR9.out.set 0 (.int .i64 sy.n)).set 1 (.slice A1 sy.ls.length c1)).set 2 (.slice A2 sy.es.length c2)
      have sAll : Bt (fun q => q = w.heap.size + 1) w9 (((w9.setCell ⟨w.heap.size + 1, 0, none⟩ (.int .i64 sy.n)).setCell ⟨w.heap.size + 1, 1, none⟩ (.slice A1 sy.ls.length c1)).setCell ⟨w.heap.size + 1, 2, none⟩ (.slice A2 sy.es.length c2)) :=
        Bt.set (Z := fun q => q = w.heap.size + 1) (p := ⟨w.heap.size + 1, 2, none⟩) (Bt.set (Z := fun q => q = w.heap.size + 1) (p := ⟨w.heap.size + 1, 1, none⟩) (Bt.set (Z := fun q => q = w.heap.size + 1) (p := ⟨w.heap.size + 1, 0, none⟩) (Bt.refl _ _) (.inr rfl) _) (.inr rfl) _) (.inr rfl) _
      have hB4' := hB3.ext ((Ext.refl _).alloc (.cells #[.int .i64 sy.n, .slice A1 sy.ls.length c1, .slice A2 sy.es.length c2] 25))
      refine bodyPost_ret (results_25p rfl _ _ (w.heap.size + 1) _ _ _ (.int .i64 0) rfl rfl (hB4'.cell 0 _) (hB4'.cell 1 _) (hB4'.cell 2 _)) rfl ⟨[.int .i64 sy.n, .slice A1 sy.ls.length c1, .slice A2 sy.es.length c2], rfl, ?_, ?_⟩
      · rw [HSE.out]
        exact RSy.good.mono (RSy.good.bel (RSy.good.move HSY.out (sAll.kp (S := fun b => B + 1 ≤ b) fun q _ h h' => by have := HM.out; omega)) ((Ext.refl _).alloc _)) fun b _ h => by have := HM.out; omega
      · exact (Bt.new HF9.out sAll fun q _ h => by omega).alloc _
end Go.Proofs.YtegenalcheooeaaGreat

