/- Of the proof of a law of the suites: SortS, SortI, LKeyW. -/
import Derived.Test.YtegenalcheooeaaGreatB06
import Derived.Test.YtegenalcheooeaaGreatB10
import Derived.Test.YtegenalcheooeaaGreatB13
import Derived.Test.YtegenalcheooeaaGreatLaid
import Derived.Shelf.SlGeneric
import Derived.Shelf.SlSortCmp.Whole1
import Derived.Shelf.SlSortCmp.NoneTotal
import Derived.Lib.OwnBridge
import Derived.Shelf.Lay
import Derived.Shelf.Sort.Plain
import Derived.Shelf.Slices.In.SortNone
import Derived.Ground.Names2Prog
import Derived.Sort.OwnSortedInts
/- slices.SortFunc at lists of labels: walked. -/
set_option linter.unusedSectionVars false
set_option linter.unusedSimpArgs false
set_option linter.unusedVariables false
namespace Go.Proofs.YtegenalcheooeaaGreat
open Go.RowKit
attribute [local go_sem] cell?_exto
open Go.Shelf Go.Sort Go.Lib

theorem grown_grow (w : World) (os : Array Obj) : w.grownBy (grow w os) none := ⟨rfl, rfl, rfl, by simp [grow], fun k hk _ => by simp [grow, Array.getElem?_append_left hk]⟩
theorem extD_grow {a b : World} (h : ExtD a b) : ∃ q os, b = grow (a.drewN q) os := by
  refine ⟨b.drawn - a.drawn, b.heap.extract a.heap.size b.heap.size, ?_⟩
  obtain ⟨bh, bt, bd, bo, bu⟩ := b
  obtain ⟨ah, at', ad, ao, au⟩ := a
  obtain ⟨⟨e1, e2, e3, e4, e5⟩, e6⟩ := h
  simp only at e1 e2 e3 e4 e5 e6
  subst e1 e2 e3
  simp only [grow, World.drewN, World.mk.injEq, true_and, and_true]
  refine ⟨?_, by omega⟩
  apply Array.ext_getElem?
  intro k
  by_cases hk : k < ah.size
  · rw [Array.getElem?_append_left hk]
    exact e5 k hk
  · rw [Array.getElem?_append_right (by omega), Array.getElem?_extract]
    by_cases hk2 : k < bh.size
    · rw [if_pos (by omega)]
      congr 1
      omega
    · rw [if_neg (by omega), Array.getElem?_eq_none (by omega)]

/-- A comparator that is an order gives a strict weak order. -/
theorem swo_of {α β : Type} {cf : α → α → Int} (h : Ord3 cf) (f : β → α) : SWO (ltOf fun x y => cf (f x) (f y)) := {
  irrefl x := by simp [ltOf, h.refl]
  trans x y z h1 h2 := by
    simp only [ltOf, decide_eq_true_eq] at *
    exact h.trans _ _ _ h1 h2
  ntrans x y z h1 h2 := by
    simp only [ltOf, decide_eq_false_iff_not, Int.not_lt] at *
    by_cases e1 : cf (f x) (f y) = 0
    · rw [h.eq _ _ e1]; exact h2
    · have h3 := (h.sgn (f y) (f x)).2 (by omega)
      by_cases h4 : cf (f x) (f z) < 0
      · have := h.trans _ _ _ h3 h4
        omega
      · omega }

section
variable {α : Type} [Inhabited α]
theorem grownBy_sortW (enc : α → Value) (w : World) (g n : Nat) (d : Array α) (os : Array Obj) : w.grownBy (sortWorld enc w g 0 n d os) (some g) := by
  refine ⟨rfl, rfl, rfl, by simp [sortWorld, grow, putRow, mapBlock, Sort.ahead], fun k hk hne => ?_⟩
  have hk' : k < (putRow enc (Sort.ahead w n) g 0 d).heap.size := by simpa [putRow, mapBlock, Sort.ahead] using hk
  have : g ≠ k := fun e => hne (by rw [e])
  unfold sortWorld
  simp only [grow, Array.getElem?_append_left hk']
  simp [putRow, mapBlock, Sort.ahead, Array.getElem?_modify, this]
theorem ownsRow_sortW {enc : α → Value} {w : World} {base : Nat} {e : TypeId} {g n cap q : Nat} {zs ys : List α} {os : Array Obj} (h : w.ownsRow base e 1 (.slice (some ⟨g, 0, none⟩) n cap) n (zs.map enc)) (hy : ys.length = n) :
    (sortWorld enc w g 0 q ys.toArray os).ownsRow base e 1 (.slice (some ⟨g, 0, none⟩) n cap) n (ys.map enc) := by
  have h1 := ownsRow_putRow (q := q) h hy (Nat.le_refl n)
  rw [← hy, List.take_length, hy] at h1
  exact h1.kept (grown_grow _ os) (.inr (by simp [Value.ownBlock]))
end

/-- Elements, each with its value. -/
abbrev SE (S : Nat → Prop) (w : World) : Type := { p : List Lb × Value // RLbs S w p.1 [p.2] }
instance (S : Nat → Prop) (w : World) : Inhabited (SE S w) := ⟨⟨([], .slice none 0 0), none, 0, rfl, Nat.le_refl _, by decide, .inl rfl⟩⟩
theorem flat_se {S : Nat → Prop} {w : World} : ∀ {l : List (List Lb)} {cs : List Value}, Flat RLbs 1 S w l cs → ∃ ds : List (SE S w), ds.map (fun p => p.1.1) = l ∧ ds.map (fun p => p.1.2) = cs
  | [], cs, h => ⟨[], rfl, (show cs = [] from h).symm⟩
  | x :: l, cs, ⟨c1, c2, h1, h2, h3, h4⟩ => by
    obtain ⟨ds, e1, e2⟩ := flat_se h4
    match c1, h2 with
    | [u], _ => exact ⟨⟨(x, u), h3⟩ :: ds, by rw [List.map_cons, e1], by rw [List.map_cons, e2, h1]; rfl⟩
theorem se_flat {S S' : Nat → Prop} {w w' : World} (hm : ∀ x u, RLbs S w x [u] → RLbs S' w' x [u]) : ∀ ds : List (SE S w), Flat RLbs 1 S' w' (ds.map fun p => p.1.1) (ds.map fun p => p.1.2)
  | [] => rfl
  | p :: ds => ⟨[p.1.2], ds.map (fun p => p.1.2), rfl, rfl, hm _ _ p.2, se_flat hm ds⟩

theorem eg143 : ∀ args w, (callFunc 143 args).run Tryz.prog w = .ok (.enter 143 args) w := enters_of Tryz.func143 (by kernel_rfl) rfl
theorem ordS : Ord3 cmpSets := ordL ordLb
def sortS (l : List (List Lb)) : List (List Lb) := sortB cmpSets l
set_option maxHeartbeats 1000000 in
set_option maxRecDepth 100000 in
theorem sortS_own (base : Nat) (T : Nat → Prop) (l : List (List Lb)) (v : Value) (w : World) (hown : ROwn RLbs 1 22 base T w l v) (hlen : l.length < 4611686018427387904) :
    Calls Tryz.prog 142 #[v, .func (.func 143) #[] #[]] w fun e w' => e = .returned (.tuple #[]) ∧ ROwn RLbs 1 22 base T w' (sortS l) v ∧ Bt (fun b => v.ownBlock = some b) w w' := by
  obtain ⟨news, hrow, hF⟩ := hown
  by_cases hv : v = .slice none 0 0
  · subst hv
    have hl0 : l = [] := by
      rcases hrow.2 with ⟨_, h⟩ | ⟨g, cap, cur, h, _⟩
      · exact List.length_eq_zero_iff.1 h
      · cases h
    subst hl0
    refine (AnyF.slices_SortFunc_none Tryz.lays142n none 0 _ w).mono ?_
    rintro e w' ⟨rfl, rfl⟩
    exact ⟨rfl, ROwn.nil .., Bt.refl _ _⟩
  obtain ⟨g, cap, rfl⟩ : ∃ g cap, v = .slice (some ⟨g, 0, none⟩) l.length cap := by
    rcases Joins.ownsRow_forms hrow with ⟨h, _⟩ | h
    · exact absurd h hv
    · exact h
  rw [own_eq] at hF
  obtain ⟨ds, rfl, rfl⟩ := flat_se hF
  have hgl := (own_row_base hrow g rfl).2
  have hn : (ds.map fun p => p.1.1).length = ds.length := List.length_map ..
  have hrow2 : w.ownsRow base 22 1 (.slice (some ⟨g, 0, none⟩) ds.length cap) ds.length (ds.map fun p => p.1.2) := by rw [← hn]; exact hrow
  obtain ⟨g', cap', he, _, _, _, _, _, hH⟩ := holds_of_ownsRow (enc := fun p : SE (fun b => T b ∧ b ≠ g) w => p.1.2) hrow2 (by simp)
  have hgg : g' = g := by injection he with h1; injection h1 with h1; injection h1 with h1; exact h1.symm
  subst hgg
  have hsz : ds.toArray.size = ds.length := by simp
  have hcmp : CmpLays1 Tryz.prog 143 #[] (fun p : SE (fun b => T b ∧ b ≠ g') w => p.1.2) (fun x y => cmpSets x.1.1 y.1.1) g' 0 ds.toArray.size w := fun m os dk hs x y => by
    have hk : Kp (fun b => T b ∧ b ≠ g') w (sortWorld (fun p : SE (fun b => T b ∧ b ≠ g') w => p.1.2) w g' 0 m dk os) :=
      (Kp.grown (grownBy_sortW _ w g' m dk os)).mono fun k _ h e => h.2 (by injection e)
    refine (sets_c (fun b => T b ∧ b ≠ g') x.1.1 y.1.1 x.1.2 y.1.2 _ (RLbs.good.move x.2 hk) (RLbs.good.move y.2 hk)).mono ?_
    rintro e w' ⟨rfl, h⟩
    exact ⟨rfl, extD_grow h⟩
  have h := Any.slices_SortFunc Tryz.lays142 (fun p : SE (fun b => T b ∧ b ≠ g') w => p.1.2) (fun p => p.2.oneCell) (fun x y => cmpSets x.1.1 y.1.1) (swo_of ordS _) 143 #[] g' 0 cap ds.toArray w eg143 hcmp hH hgl (by rw [hsz]; omega)
  rw [hsz] at h
  rw [hn]
  refine h.mono ?_
  rintro e w' ⟨rfl, d', n, os, hp, hs, rfl⟩
  refine ⟨rfl, ?_, (Bt.of_grown (grownBy_sortW _ w g' n d' os)).mono fun k _ hk => by injection hk with hk; rw [hk]; rfl⟩
  have hd : d'.size = ds.length := by rw [hp.1, hsz]
  have hperm : (d'.toList.map fun p => p.1.1).Perm (ds.map fun p => p.1.1) := by
    have h3 := hp.2.2
    rw [← hd, Array.extract_size] at h3
    have h4 : (ds.toArray.extract 0 d'.size).toList = ds := by rw [hd, ← hsz, Array.extract_size]
    rw [h4] at h3
    exact h3.map _
  have hsrt : Srt cmpSets (d'.toList.map fun p => p.1.1) := by
    rw [Srt, List.pairwise_map, List.pairwise_iff_getElem]
    intro i j hi hj hij
    have h5 := hs i j (Nat.zero_le _) hij (by rw [← hd]; simpa using hj)
    simp only [ltOf, decide_eq_false_iff_not, Int.not_lt] at h5
    rw [getElem!_pos d' i (by simpa using hi), getElem!_pos d' j (by simpa using hj)] at h5
    have h6 := ordS.sgn d'[i].1.1 d'[j].1.1
    have h7 := ordS.sgn d'[j].1.1 d'[i].1.1
    simp only [Array.getElem_toList]
    omega
  have heq : sortS (ds.map fun p => p.1.1) = d'.toList.map fun p => p.1.1 := (sortB_of ordS hperm hsrt).symm
  rw [heq]
  have hbt := grownBy_sortW (fun p : SE (fun b => T b ∧ b ≠ g') w => p.1.2) w g' n d' os
  have ho := ownsRow_sortW (q := n) (os := os) hrow2 (ys := d'.toList) (by simpa using hd)
  refine ⟨d'.toList.map fun p => p.1.2, ?_, ?_⟩
  · rw [List.length_map, show d'.toList.length = ds.length from by simpa using hd]
    simpa using ho
  · rw [own_eq]
    exact se_flat (fun x u hx => RLbs.good.move hx ((Kp.grown hbt).mono fun k _ h e => h.2 (by injection e))) _
end Go.Proofs.YtegenalcheooeaaGreat

/- slices.Sort at whole numbers. -/
set_option linter.unusedSectionVars false
set_option linter.unusedSimpArgs false
set_option linter.unusedVariables false
namespace Go.Proofs.YtegenalcheooeaaGreat
open Go.RowKit
attribute [local go_sem] cell?_exto
open Go.Shelf Go.Sort

def insI (x : Int) : List Int → List Int
  | [] => [x]
  | y :: ys => if x ≤ y then x :: y :: ys else y :: insI x ys
def sortI : List Int → List Int
  | [] => []
  | x :: xs => insI x (sortI xs)
theorem insI_perm (x : Int) : ∀ l : List Int, (insI x l).Perm (x :: l)
  | [] => List.Perm.refl _
  | y :: ys => by
    rw [insI]
    split
    · exact List.Perm.refl _
    · exact ((insI_perm x ys).cons y).trans (List.Perm.swap x y ys)
theorem sortI_perm : ∀ xs : List Int, (sortI xs).Perm xs
  | [] => List.Perm.refl _
  | x :: xs => (insI_perm x (sortI xs)).trans ((sortI_perm xs).cons x)
theorem insI_sorted (x : Int) : ∀ l : List Int, l.Pairwise (· ≤ ·) → (insI x l).Pairwise (· ≤ ·)
  | [], _ => List.pairwise_singleton _ _
  | y :: ys, h => by
    rw [insI]
    have h' := List.pairwise_cons.1 h
    split
    · rename_i hx
      exact List.pairwise_cons.2 ⟨fun z hz => (List.mem_cons.1 hz).elim (fun e => e ▸ hx) fun hz => Int.le_trans hx (h'.1 z hz), h⟩
    · rename_i hx
      refine List.pairwise_cons.2 ⟨fun z hz => ?_, insI_sorted x ys h'.2⟩
      rcases List.mem_cons.1 ((insI_perm x ys).mem_iff.1 hz) with rfl | hz
      · omega
      · exact h'.1 z hz
theorem sortI_sorted : ∀ xs : List Int, (sortI xs).Pairwise (· ≤ ·)
  | [] => List.Pairwise.nil
  | x :: xs => insI_sorted x _ (sortI_sorted xs)
theorem sortI_eq (xs : List Int) : sortI xs = xs.mergeSort fun x y => decide (x ≤ y) := by
  have h := List.pairwise_mergeSort (le := fun x y : Int => decide (x ≤ y)) (fun a b c h1 h2 => by simp at *; omega) (fun a b => by simp; omega) xs
  exact List.Perm.eq_of_pairwise (le := (· ≤ ·)) (fun a b _ _ h1 h2 => Int.le_antisymm h1 h2) (sortI_sorted xs) (h.imp fun {a b} h => by simpa using h) ((sortI_perm xs).trans (List.mergeSort_perm _ _).symm)
theorem sortI_len (xs : List Int) : (sortI xs).length = xs.length := (sortI_perm xs).length_eq
theorem sortI_mem (xs : List Int) (x : Int) : x ∈ sortI xs ↔ x ∈ xs := (sortI_perm xs).mem_iff

theorem Flat.ints {S : Nat → Prop} {w : World} : ∀ {xs : List Int} {cs : List Value}, Flat RInt 1 S w xs cs → cs = xs.map (Value.int .i64) ∧ ∀ x ∈ xs, I64 x
  | [], cs, h => ⟨h, by simp⟩
  | x :: xs, cs, ⟨c1, c2, h1, h2, h3, h4⟩ => by
    obtain ⟨rfl, hx⟩ := h3
    obtain ⟨rfl, hi⟩ := h4.ints
    exact ⟨h1, fun y hy => (List.mem_cons.1 hy).elim (fun e => e ▸ hx) (hi y)⟩
theorem Flat.of_ints {S : Nat → Prop} {w : World} : ∀ {xs : List Int}, (∀ x ∈ xs, I64 x) → Flat RInt 1 S w xs (xs.map (Value.int .i64))
  | [], _ => rfl
  | x :: xs, h => ⟨[.int .i64 x], _, rfl, rfl, ⟨rfl, h x (by simp)⟩, Flat.of_ints fun y hy => h y (by simp [hy])⟩

/-- slices.Sort of a row of one's own. -/
theorem sort_own (base : Nat) (T : Nat → Prop) (xs : List Int) (v : Value) (w : World) (hx : ROwn RInt 1 3 base T w xs v) (hsz : xs.length < 4611686018427387904) :
    Calls Tryz.prog 59 #[v] w fun e w' => e = .returned (.tuple #[]) ∧ ROwn RInt 1 3 base T w' (sortI xs) v ∧ Bt (fun b => v.ownBlock = some b) w w' := by
  obtain ⟨news, ⟨h1, h2⟩, h3⟩ := hx
  obtain ⟨rfl, hi⟩ := h3.ints
  rcases h2 with ⟨rfl, h2⟩ | ⟨g, cap, cur, rfl, hb, hh, hc, hm, hs, ht⟩
  · have : xs = [] := List.length_eq_zero_iff.1 h2
    subst this
    refine (Any.slices_Sort_int_none Tryz.lays189 none 0 w).mono ?_
    rintro e w' ⟨rfl, rfl⟩
    exact ⟨rfl, (ROwn.nil ..), Bt.refl _ _⟩
  · have ht' : cur.toList.take xs.length = xs.map (Value.int .i64) := by rw [← ht, Nat.mul_one]
    refine (Any.slices_Sort_int Tryz.lays189 g 0 cap xs w (holds_of_blockI hh ht') (Array.getElem?_eq_some_iff.1 hh).1 hsz).mono ?_
    rintro e w' ⟨rfl, n, os, rfl⟩
    rw [sortI_eq]
    refine ⟨rfl, ⟨(xs.mergeSort fun x y => decide (x ≤ y)).map (Value.int .i64), ?_, Flat.of_ints fun x hx => hi x (List.mem_mergeSort.1 hx)⟩, (Bt.of_grown (grownBy_sortedI _)).mono fun k _ hk => by cases hk; rfl⟩
    have := ownsRow_sortedI (n := n) (os := os) (ts := xs.mergeSort fun x y => decide (x ≤ y)) (List.length_mergeSort xs) hb hh hc hm hs
    rw [List.length_mergeSort]
    exact this
end Go.Proofs.YtegenalcheooeaaGreat

/- Keys of labels, in plain words: a label that is valid can be read off its key. -/
set_option linter.unusedSectionVars false
set_option linter.unusedSimpArgs false
set_option linter.unusedVariables false
namespace Go.Proofs.YtegenalcheooeaaGreat
open Go.RowKit
attribute [local go_sem] cell?_exto
open Go.Shelf

mutual
def keyTm : Tm → List UInt8
  | .mk _ n l => UInt8.ofNat n.toNat :: UInt8.ofNat l.length :: keyTms l
def keyTms : List Tm → List UInt8
  | [] => []
  | x :: xs => keyTm x ++ keyTms xs
end
def keyLb (x : Lb) : List UInt8 := UInt8.ofNat (x.g + 4).toNat :: UInt8.ofNat x.v.length :: keyTms x.v
theorem keyTm_eq (t : Tm) : keyTm t = UInt8.ofNat t.n.toNat :: UInt8.ofNat t.l.length :: keyTms t.l := by cases t; rw [keyTm]; rfl
mutual
theorem keyTm_len : ∀ t : Tm, (keyTm t).length = 2 * t.size
  | .mk _ n l => by rw [keyTm, List.length_cons, List.length_cons, keyTms_len l, Tm.size]; omega
theorem keyTms_len : ∀ l : List Tm, (keyTms l).length = 2 * Tm.sizes l
  | [] => by rw [keyTms, Tm.sizes]; rfl
  | x :: xs => by rw [keyTms, List.length_append, keyTm_len x, keyTms_len xs, Tm.sizes]; omega
end
theorem byte_of {n : Int} (h0 : 0 ≤ n) (h1 : n < 256) : ((UInt8.ofNat n.toNat).toNat : Int) = n := by
  rw [UInt8.toNat_ofNat']
  omega
theorem ofNat_inj8 {a b : Nat} (ha : a < 256) (hb : b < 256) (h : UInt8.ofNat a = UInt8.ofNat b) : a = b := by
  have := congrArg UInt8.toNat h
  rw [UInt8.toNat_ofNat', UInt8.toNat_ofNat'] at this
  omega
mutual
theorem keyTm_inj : ∀ (x y : Tm) (r s : List UInt8), allV x = true → allV y = true → keyTm x ++ r = keyTm y ++ s → x = y ∧ r = s
  | .mk k n l, .mk k' n' l', r, s, h, h', e => by
    rw [allV] at h h'
    simp only [Bool.and_eq_true, decide_eq_true_eq] at h h'
    rw [keyTm, keyTm] at e
    simp only [List.cons_append, List.cons.injEq] at e
    have e1 := ofNat_inj8 (by omega) (by omega) e.1
    have e2 := ofNat_inj8 (by omega) (by omega) e.2.1
    have e3 := keyTms_inj l l' r s h.2 h'.2 e2 e.2.2
    have e4 : n = n' := by omega
    have e5 : k = k' := by omega
    rw [e3.1, e4, e5]
    exact ⟨rfl, e3.2⟩
theorem keyTms_inj : ∀ (x y : List Tm) (r s : List UInt8), allVs x = true → allVs y = true → x.length = y.length → keyTms x ++ r = keyTms y ++ s → x = y ∧ r = s
  | [], [], r, s, _, _, _, e => ⟨rfl, by simpa [keyTms] using e⟩
  | [], _ :: _, _, _, _, _, h, _ => by simp at h
  | _ :: _, [], _, _, _, _, h, _ => by simp at h
  | x :: xs, y :: ys, r, s, h, h', hl, e => by
    rw [allVs, Bool.and_eq_true] at h h'
    rw [keyTms, keyTms, List.append_assoc, List.append_assoc] at e
    have e1 := keyTm_inj x y _ _ h.1 h'.1 e
    have e2 := keyTms_inj xs ys r s h.2 h'.2 (by simpa using hl) e1.2
    rw [e1.1, e2.1]
    exact ⟨rfl, e2.2⟩
end
theorem allVs_of : ∀ {l : List Tm}, (∀ t ∈ l, allV t = true) → allVs l = true
  | [], _ => rfl
  | x :: xs, h => by rw [allVs, h x (by simp), allVs_of fun t ht => h t (by simp [ht])]; rfl
theorem allV_sub {t : Tm} (h : allV t = true) : 0 ≤ t.n ∧ t.n < 256 ∧ t.l.length ≤ 8 ∧ ∀ x ∈ t.l, allV x = true := by
  rw [allV_eq] at h
  simp only [Bool.and_eq_true, decide_eq_true_eq, Bool.not_eq_true', List.any_eq_false] at h
  exact ⟨h.1.1.1.2, h.1.1.2, h.1.2, fun x hx => by simpa using h.2 x hx⟩
theorem okLb_v {x : Lb} (h : okLb x = true) : -3 ≤ x.g ∧ x.g < 32 ∧ x.v.length ≤ 8 ∧ ∀ t ∈ x.v, allV t = true := by
  unfold okLb at h
  simp only [Bool.not_eq_true', Bool.or_eq_false_iff, decide_eq_false_iff_not, List.any_eq_false] at h
  refine ⟨by omega, by omega, by omega, fun t ht => ?_⟩
  have := h.2 t ht
  cases ha : allV t with
  | true => rfl
  | false => exact absurd (by simp [isV, ha]) this
theorem keyLb_inj {x y : Lb} (h : okLb x = true) (h' : okLb y = true) (e : keyLb x = keyLb y) : x = y := by
  have hx := okLb_v h
  have hy := okLb_v h'
  simp only [keyLb, List.cons.injEq] at e
  have e1 := ofNat_inj8 (by omega) (by omega) e.1
  have e2 := ofNat_inj8 (by omega) (by omega) e.2.1
  have e3 := (keyTms_inj x.v y.v [] [] (allVs_of hx.2.2.2) (allVs_of hy.2.2.2) e2 (by simpa using e.2.2)).1
  obtain ⟨g, v⟩ := x
  obtain ⟨g', v'⟩ := y
  simp only at e1 e3
  rw [e3, show g = g' by simp only at hx hy; omega]
/-- A key as Go's text. -/
def keyS (x : Lb) : ByteArray := ⟨(keyLb x).toArray⟩
theorem keyS_inj {x y : Lb} (h : okLb x = true) (h' : okLb y = true) (e : keyS x = keyS y) : x = y := by
  refine keyLb_inj h h' ?_
  have := congrArg (fun b : ByteArray => b.data.toList) e
  simpa [keyS] using this
instance : DecidableEq Lb := fun a b => decidable_of_iff (cmpLb a b = 0) (ordLb.iff a b)
end Go.Proofs.YtegenalcheooeaaGreat

