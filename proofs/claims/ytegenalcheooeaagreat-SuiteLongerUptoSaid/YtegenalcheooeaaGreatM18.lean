/- Of the proof of a law of the suites: Covers1. -/
import Derived.Test.YtegenalcheooeaaGreatM09
import Derived.Test.YtegenalcheooeaaGreatM17
/- suite.covers: what it comes to. -/
set_option linter.unusedSectionVars false
set_option linter.unusedSimpArgs false
set_option linter.unusedVariables false
namespace Go.Proofs.YtegenalcheooeaaGreat
open Go.RowKit
attribute [local go_sem] cell?_exto
open Go.Shelf

/-! ### A drawn region with a call that writes, within a round -/
theorem anyIn_of_any {P : Program} {md : Region.Mode} {ops : Array Oper} {Q : Exit → Act → World → Prop} (l n : Nat) (hd : noDefer ops = true) (hno : ¬ LetsOut Q) : ∀ (fuel : Nat) (listed : Array Bool) (a : Act) (w : World),
    wpAny P md ops Q fuel listed a w → wpAnyIn (Fence.wide.inRound l) n P md ops Q fuel listed a w
  | 0, _, _, _, h => h
  | fuel + 1, listed, a, w, h => ⟨h.1, fun i hi => by
    have hh := wpOp_mono (fun a' w' h' => anyIn_of_any l n hd hno fuel _ a' w' h') (h.2 i hi)
    unfold wpOp at hh
    unfold wpOpIn
    cases ho : ops[i]? with
    | none =>
      simp only [ho] at hh ⊢
      exact hh
    | some o =>
      simp only [ho] at hh ⊢
      split
      · rename_i hw'
        simp only [hw', if_true] at hh
        exact opIn_round l n (noDefer_spec hd ho) (hh.resolve_right fun h => hno h.2)
      · rename_i hw'
        simp only [hw'] at hh
        exact ⟨fun _ _ => trivial, hh⟩⟩
theorem wpIn_region_held {P : Program} {l n id : Nat} {Q : Exit → Act → World → Prop} {a : Act} {w : World} {ls : List Oper} (S : World → Prop) (hm : P.follows .mixedOrders = true) (hd : noDefer ls.toArray = true) (hno : ¬ LetsOut Q) (hS : S w.drew)
    (h : S w.drew → wpAnyH P .any ls.toArray Q S ls.toArray.size (Array.replicate ls.toArray.size false) a w.drew) : (Code.region id ls.toArray true).wpIn (Fence.wide.inRound l) n P Q a w :=
  wpIn_region_any hm (anyIn_of_any l n hd hno _ _ _ _ (wpAny_of_held _ _ _ _ (h hS)))

/-- Which labels, which edges. -/
structure Cv where
  l : List Bool
  e : List Bool
/-- A test at its k-th beginning goes along an edge. -/
def hitAt (s : Sy) (tr : List Lb) (k : Nat) (l : Int) : Bool := lbHas s l fun y => decide (y.g = -1) || (match tr[k]? with
  | some x => visB y.g && decide (cmpLb y x = 0)
  | none => false)
def cvOne (s : Sy) (tr : List Lb) (k : Nat) (es : List Bool) (j : Fin s.es.length) : List Bool := if hitAt s tr k s.es[j].l = true then es.set j.1 true else es
def cvRow (s : Sy) (tr : List Lb) (k : Nat) (js : List (Fin s.es.length)) (es : List Bool) : List Bool := js.foldl (cvOne s tr k) es
def cvEs (s : Sy) (tr : List Lb) (k : Nat) (sts : List Int) (es : List Bool) : List Bool := sts.foldl (fun es st => cvRow s tr k (outN s.es st) es) es
def cvTr (s : Sy) (tr : List Lb) (k : Nat) (ls : List Bool) : List Bool := if k = 0 then ls else match tr[k - 1]? with
  | some x => markL s x ls
  | none => ls
def cvMus (s : Sy) (mu : List Lb) (ls : List Bool) : List Bool := mu.foldl (fun ls x => markL s x ls) ls
def cvMu (s : Sy) (t : Te) (k : Nat) (ls : List Bool) : List Bool := if k = t.tr.length then cvMus s t.mu ls else ls
def cvRound (s : Sy) (t : Te) (k : Nat) (c : Cv) : Cv := ⟨cvMu s t k (cvTr s t.tr k c.l), cvEs s t.tr k (afterL s (t.tr.take k)) c.e⟩
def cvGo (s : Sy) (t : Te) : Nat → Nat → Cv → Cv
  | 0, _, c => c
  | f + 1, k, c => if afterL s (t.tr.take k) = [] then c else cvGo s t f (k + 1) (cvRound s t k c)
/-- What a test covers, beside what was. -/
def covL (s : Sy) (t : Te) (c : Cv) : Cv := cvGo s t (t.tr.length + 1) 0 c
/-- Behind the first k rounds. -/
def cvUp (s : Sy) (t : Te) (c : Cv) : Nat → Cv
  | 0 => c
  | k + 1 => cvRound s t k (cvUp s t c k)
theorem cvOne_len (s : Sy) (tr : List Lb) (k : Nat) (es : List Bool) (j : Fin s.es.length) : (cvOne s tr k es j).length = es.length := by unfold cvOne; split <;> simp
theorem cvRow_len (s : Sy) (tr : List Lb) (k : Nat) : ∀ (js : List (Fin s.es.length)) (es : List Bool), (cvRow s tr k js es).length = es.length
  | [], _ => rfl
  | j :: js, es => (cvRow_len s tr k js _).trans (cvOne_len s tr k es j)
theorem cvRow_snoc (s : Sy) (tr : List Lb) (k : Nat) (js : List (Fin s.es.length)) (j : Fin s.es.length) (es : List Bool) : cvRow s tr k (js ++ [j]) es = cvOne s tr k (cvRow s tr k js es) j := by simp [cvRow]
theorem cvEs_len (s : Sy) (tr : List Lb) (k : Nat) : ∀ (sts : List Int) (es : List Bool), (cvEs s tr k sts es).length = es.length
  | [], _ => rfl
  | st :: sts, es => (cvEs_len s tr k sts _).trans (cvRow_len s tr k _ es)
theorem cvEs_snoc (s : Sy) (tr : List Lb) (k : Nat) (sts : List Int) (st : Int) (es : List Bool) : cvEs s tr k (sts ++ [st]) es = cvRow s tr k (outN s.es st) (cvEs s tr k sts es) := by simp [cvEs]
theorem cvTr_len (s : Sy) (tr : List Lb) (k : Nat) (ls : List Bool) : (cvTr s tr k ls).length = ls.length := by
  unfold cvTr
  split
  · rfl
  · split
    · exact markL_len ..
    · rfl
theorem cvMus_len (s : Sy) : ∀ (mu : List Lb) (ls : List Bool), (cvMus s mu ls).length = ls.length
  | [], _ => rfl
  | x :: mu, ls => (cvMus_len s mu _).trans (markL_len s x ls)
theorem cvMus_snoc (s : Sy) (mu : List Lb) (x : Lb) (ls : List Bool) : cvMus s (mu ++ [x]) ls = markL s x (cvMus s mu ls) := by simp [cvMus]
theorem cvRound_len (s : Sy) (t : Te) (k : Nat) (c : Cv) : (cvRound s t k c).l.length = c.l.length ∧ (cvRound s t k c).e.length = c.e.length := by
  constructor
  · show (cvMu s t k (cvTr s t.tr k c.l)).length = _
    unfold cvMu
    split
    · rw [cvMus_len, cvTr_len]
    · rw [cvTr_len]
  · exact cvEs_len ..
theorem cvUp_len (s : Sy) (t : Te) (c : Cv) : ∀ k, (cvUp s t c k).l.length = c.l.length ∧ (cvUp s t c k).e.length = c.e.length
  | 0 => ⟨rfl, rfl⟩
  | k + 1 => by
    have h1 := cvUp_len s t c k
    have h2 := cvRound_len s t k (cvUp s t c k)
    exact ⟨h2.1.trans h1.1, h2.2.trans h1.2⟩
theorem cvGo_len (s : Sy) (t : Te) : ∀ (f k : Nat) (c : Cv), (cvGo s t f k c).l.length = c.l.length ∧ (cvGo s t f k c).e.length = c.e.length
  | 0, _, _ => ⟨rfl, rfl⟩
  | f + 1, k, c => by
    rw [cvGo]
    split
    · exact ⟨rfl, rfl⟩
    · have h1 := cvGo_len s t f (k + 1) (cvRound s t k c)
      have h2 := cvRound_len s t k c
      exact ⟨h1.1.trans h2.1, h1.2.trans h2.2⟩
theorem covL_len (s : Sy) (t : Te) (c : Cv) : (covL s t c).l.length = c.l.length ∧ (covL s t c).e.length = c.e.length := cvGo_len ..

/-- The rows of a cover. -/
structure RCv (base : Nat) (w : World) (c : Cv) (v1 v2 : Value) : Prop where
  l : RBs base w c.l v1
  e : RBs base w c.e v2
  ap : ∀ q, v1.ownBlock = some q → v2.ownBlock ≠ some q
def ZCv (v1 v2 : Value) (q : Nat) : Prop := v1.ownBlock = some q ∨ v2.ownBlock = some q
theorem rbs_keep {base : Nat} {w w' : World} {bs : List Bool} {v : Value} {Z : Nat → Prop} (h : RBs base w bs v) (hb : Bt Z w w') (hz : ∀ q, v.ownBlock = some q → ¬ Z q) : RBs base w' bs v := by
  obtain ⟨news, ⟨h1, h2⟩, h3⟩ := h
  refine ⟨news, ⟨h1, h2.imp id ?_⟩, h3.imp fun x _ cs h => h⟩
  rintro ⟨g, cap, cur, rfl, hg, hh, hrest⟩
  exact ⟨g, cap, cur, rfl, hg, (hb.block g (Array.getElem?_eq_some_iff.1 hh).1 (hz g rfl)).trans hh, hrest⟩
theorem rbs_lt {base : Nat} {w : World} {bs : List Bool} {v : Value} (h : RBs base w bs v) {q : Nat} (hq : v.ownBlock = some q) : base ≤ q ∧ q < w.heap.size := by
  obtain ⟨news, h2, _⟩ := h
  exact own_row_base h2 q hq
theorem RCv.ext {base : Nat} {w w' : World} {c : Cv} {v1 v2 : Value} (h : RCv base w c v1 v2) (he : Ext w w') : RCv base w' c v1 v2 := ⟨h.l.ext RBool.good he, h.e.ext RBool.good he, h.ap⟩
theorem RCv.keep {base : Nat} {w w' : World} {c : Cv} {v1 v2 : Value} {Z : Nat → Prop} (h : RCv base w c v1 v2) (hb : Bt Z w w') (hz : ∀ q, ZCv v1 v2 q → ¬ Z q) : RCv base w' c v1 v2 :=
  ⟨rbs_keep h.l hb fun q e => hz q (.inl e), rbs_keep h.e hb fun q e => hz q (.inr e), h.ap⟩
theorem Bt.tail {Z Z' : Nat → Prop} {a b c : World} (h : Bt Z a b) (k : Bt Z' b c) (hz : ∀ i, Z' i → a.heap.size ≤ i) : Bt Z a c :=
  ⟨k.os.trans h.os, k.tape.trans h.tape, k.output.trans h.output, Nat.le_trans h.size k.size, fun i hi hn => (k.block i (Nat.lt_of_lt_of_le hi h.size) fun e => by have := hz i e; omega).trans (h.block i hi hn)⟩
theorem RCv.own {base B : Nat} {c : Cv} {v1 v2 : Value} {W0 : World} (h0 : RCv base W0 c v1 v2) (hB : W0.heap.size ≤ B) {X Y : World} {r : Option Nat} {c' : Cv} (h : RCv base X c' v1 v2) (hg : X.grownBy Y r) (hr : ∀ q, r = some q → B ≤ q) : RCv base Y c' v1 v2 := by
  have key : ∀ {bs v}, RBs base X bs v → (∀ q, v.ownBlock = some q → q < W0.heap.size) → RBs base Y bs v := fun h hq => rbs_keep h (Bt.of_grown hg) fun q e e' => by
    have := hq q e
    have := hr q e'.symm
    omega
  exact ⟨key h.l fun q e => (rbs_lt h0.l e).2, key h.e fun q e => (rbs_lt h0.e e).2, h.ap⟩
theorem rbs_own {base B : Nat} {bs0 bs : List Bool} {v : Value} {W0 : World} (h0 : RBs base W0 bs0 v) (hB : W0.heap.size ≤ B) {X Y : World} {r : Option Nat} (h : RBs base X bs v) (hg : X.grownBy Y r) (hr : ∀ q, r = some q → B ≤ q) : RBs base Y bs v := rbs_keep h (Bt.of_grown hg) fun q e e' => by
  have := (rbs_lt h0 e).2
  have := hr q e'.symm
  omega
end Go.Proofs.YtegenalcheooeaaGreat

