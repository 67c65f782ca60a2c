/- Of the proof of a law of the suites: SortS, After, OpenA, SayB. -/
import Derived.Test.YtegenalcheooeaaGreatB11
import Derived.Test.YtegenalcheooeaaGreatB12
import Derived.Test.YtegenalcheooeaaGreatB15
import Derived.Test.YtegenalcheooeaaGreatLaid
import Derived.Shelf.SlGeneric
import Derived.Shelf.SlSortCmp.Whole1
import Derived.Shelf.SlSortCmp.NoneTotal
import Derived.Lib.OwnBridge
import Derived.Test.YtegenalcheooeaaGreatRows
import Derived.ProofKit
import Derived.OpenShut
import Derived.JoinedCond
import Derived.Deep.Strs
import Derived.ChangeStays
import Derived.ChangeBook
set_option linter.unusedSectionVars false
set_option linter.unusedSimpArgs false
set_option linter.unusedVariables false
namespace Go.Proofs.YtegenalcheooeaaGreat
open Go.RowKit
attribute [local go_sem] cell?_exto
section
open Go.Shelf Go.Sort Go.Lib

theorem grown_grow (w : World) (os : Array Obj) : w.grownBy (grow w os) none := ⟨rfl, rfl, rfl, by simp [grow], fun k hk _ => by simp [grow, Array.getElem?_append_left hk]⟩
theorem extD_grow {a b : World} (h : ExtD a b) : ∃ q os, b = grow (a.drewN q) os := by
 refine ⟨b.drawn - a.drawn, b.heap.extract a.heap.size b.heap.size, ?_⟩
 obtain ⟨bh, bt, bd, bo, bu⟩ := b
 obtain ⟨ah, at', ad, ao, au⟩ := a
 obtain ⟨⟨e1, e2, e3, e4, e5⟩, e6⟩ := h
 simp only at e1 e2 e3 e4 e5 e6
 subst e1 e2 e3
 simp only [grow, World.drewN, World.mk.injEq, true_and, and_true]
 refine ⟨?_, by omega⟩
 apply Array.ext_getElem?
 intro k
 by_cases hk : k < ah.size
 ·rw [Array.getElem?_append_left hk]
  exact e5 k hk
 ·rw [Array.getElem?_append_right (by omega), Array.getElem?_extract]
  by_cases hk2 : k < bh.size
  ·rw [if_pos (by omega)]
   congr 1
   omega
  ·rw [if_neg (by omega), Array.getElem?_eq_none (by omega)]

/-- A comparator that is an order gives a strict weak order. -/
theorem swo_of {α β : Type} {cf : α → α → Int} (h : Ord3 cf) (f : β → α) : SWO (ltOf fun x y => cf (f x) (f y)) := {
 irrefl x := by simp [ltOf, h.refl]
 trans x y z h1 h2 := by
  simp only [ltOf, decide_eq_true_eq] at *
  exact h.trans _ _ _ h1 h2
 ntrans x y z h1 h2 := by
  simp only [ltOf, decide_eq_false_iff_not, Int.not_lt] at *
  by_cases e1 : cf (f x) (f y) = 0
  ·rw [h.eq _ _ e1]; exact h2
  ·have h3 := (h.sgn (f y) (f x)).2 (by omega)
   by_cases h4 : cf (f x) (f z) < 0
   ·have := h.trans _ _ _ h3 h4
    omega
   ·omega }

section
variable {α : Type} [Inhabited α]
theorem grownBy_sortW (enc : α → Value) (w : World) (g n : Nat) (d : Array α) (os : Array Obj) : w.grownBy (sortWorld enc w g 0 n d os) (some g) := by
 refine ⟨rfl, rfl, rfl, by simp [sortWorld, grow, putRow, mapBlock, Sort.ahead], fun k hk hne => ?_⟩
 have hk' : k < (putRow enc (Sort.ahead w n) g 0 d).heap.size := by simpa [putRow, mapBlock, Sort.ahead] using hk
 have : g ≠ k := fun e => hne (by rw [e])
 unfold sortWorld
 simp only [grow, Array.getElem?_append_left hk']
 simp [putRow, mapBlock, Sort.ahead, Array.getElem?_modify, this]
theorem ownsRow_sortW {enc : α → Value} {w : World} {base : Nat} {e : TypeId} {g n cap q : Nat} {zs ys : List α} {os : Array Obj} (h : w.ownsRow base e 1 (.slice (some ⟨g, 0, none⟩) n cap) n (zs.map enc)) (hy : ys.length = n) :
  (sortWorld enc w g 0 q ys.toArray os).ownsRow base e 1 (.slice (some ⟨g, 0, none⟩) n cap) n (ys.map enc) := by
 have h1 := ownsRow_putRow (q := q) h hy (Nat.le_refl n)
 rw [← hy, List.take_length, hy] at h1
 exact h1.kept (grown_grow _ os) (.inr (by simp [Value.ownBlock]))
end

/-- Elements, each with its value. -/
abbrev SE (S : Nat → Prop) (w : World) : Type := { p : List Lb × Value // RLbs S w p.1 [p.2] }
instance (S : Nat → Prop) (w : World) : Inhabited (SE S w) := ⟨⟨([], .slice none 0 0), none, 0, rfl, Nat.le_refl _, by decide, .inl rfl⟩⟩
theorem flat_se {S : Nat → Prop} {w : World} : ∀ {l : List (List Lb)} {cs : List Value}, Flat RLbs 1 S w l cs → ∃ ds : List (SE S w), ds.map (fun p => p.1.1) = l ∧ ds.map (fun p => p.1.2) = cs
 | [], cs, h => ⟨[], rfl, (show cs = [] from h).symm⟩
 | x :: l, cs, ⟨c1, c2, h1, h2, h3, h4⟩ => by
  obtain ⟨ds, e1, e2⟩ := flat_se h4
  match c1, h2 with
  | [u], _ => exact ⟨⟨(x, u), h3⟩ :: ds, by rw [List.map_cons, e1], by rw [List.map_cons, e2, h1]; rfl⟩
theorem se_flat {S S' : Nat → Prop} {w w' : World} (hm : ∀ x u, RLbs S w x [u] → RLbs S' w' x [u]) : ∀ ds : List (SE S w), Flat RLbs 1 S' w' (ds.map fun p => p.1.1) (ds.map fun p => p.1.2)
 | [] => rfl
 | p :: ds => ⟨[p.1.2], ds.map (fun p => p.1.2), rfl, rfl, hm _ _ p.2, se_flat hm ds⟩

theorem eg143 : ∀ args w, (callFunc 143 args).run Tryz.prog w = .ok (.enter 143 args) w := enters_of Tryz.func143 (by kernel_rfl) rfl
theorem ordS : Ord3 cmpSets := ordL ordLb
def sortS (l : List (List Lb)) : List (List Lb) := sortB cmpSets l
set_option maxHeartbeats 1000000 in
set_option maxRecDepth 100000 in
theorem sortS_own (base : Nat) (T : Nat → Prop) (l : List (List Lb)) (v : Value) (w : World) (hown : ROwn RLbs 1 22 base T w l v) (hlen : l.length < 4611686018427387904) :
  Calls Tryz.prog 142 #[v, .func (.func 143) #[] #[]] w fun e w' => e = .returned (.tuple #[]) ∧ ROwn RLbs 1 22 base T w' (sortS l) v ∧ Bt (fun b => v.ownBlock = some b) w w' := by
 obtain ⟨news, hrow, hF⟩ := hown
 by_cases hv : v = .slice none 0 0
 ·subst hv
  have hl0 : l = [] := by
   rcases hrow.2 with ⟨_, h⟩ | ⟨g, cap, cur, h, _⟩
   ·exact List.length_eq_zero_iff.1 h
   ·cases h
  subst hl0
  refine (AnyF.slices_SortFunc_none Tryz.lays142n none 0 _ w).mono ?_
  rintro e w' ⟨rfl, rfl⟩
  exact ⟨rfl, ROwn.nil .., Bt.refl _ _⟩
 obtain ⟨g, cap, rfl⟩ : ∃ g cap, v = .slice (some ⟨g, 0, none⟩) l.length cap := by
  rcases Joins.ownsRow_forms hrow with ⟨h, _⟩ | h
  ·exact absurd h hv
  ·exact h
 rw [own_eq] at hF
 obtain ⟨ds, rfl, rfl⟩ := flat_se hF
 have hgl := (own_row_base hrow g rfl).2
 have hn : (ds.map fun p => p.1.1).length = ds.length := List.length_map ..
 have hrow2 : w.ownsRow base 22 1 (.slice (some ⟨g, 0, none⟩) ds.length cap) ds.length (ds.map fun p => p.1.2) := by rw [← hn]; exact hrow
 obtain ⟨g', cap', he, _, _, _, _, _, hH⟩ := holds_of_ownsRow (enc := fun p : SE (fun b => T b ∧ b ≠ g) w => p.1.2) hrow2 (by simp)
 have hgg : g' = g := by injection he with h1; injection h1 with h1; injection h1 with h1; exact h1.symm
 subst hgg
 have hsz : ds.toArray.size = ds.length := by simp
 have hcmp : CmpLays1 Tryz.prog 143 #[] (fun p : SE (fun b => T b ∧ b ≠ g') w => p.1.2) (fun x y => cmpSets x.1.1 y.1.1) g' 0 ds.toArray.size w := fun m os dk hs x y => by
  have hk : Kp (fun b => T b ∧ b ≠ g') w (sortWorld (fun p : SE (fun b => T b ∧ b ≠ g') w => p.1.2) w g' 0 m dk os) :=
   (Kp.grown (grownBy_sortW _ w g' m dk os)).mono fun k _ h e => h.2 (by injection e)
  refine (sets_c (fun b => T b ∧ b ≠ g') x.1.1 y.1.1 x.1.2 y.1.2 _ (RLbs.good.move x.2 hk) (RLbs.good.move y.2 hk)).mono ?_
  rintro e w' ⟨rfl, h⟩
  exact ⟨rfl, extD_grow h⟩
 have h := Any.slices_SortFunc Tryz.lays142 (fun p : SE (fun b => T b ∧ b ≠ g') w => p.1.2) (fun p => p.2.oneCell) (fun x y => cmpSets x.1.1 y.1.1) (swo_of ordS _) 143 #[] g' 0 cap ds.toArray w eg143 hcmp hH hgl (by rw [hsz]; omega)
 rw [hsz] at h
 rw [hn]
 refine h.mono ?_
 rintro e w' ⟨rfl, d', n, os, hp, hs, rfl⟩
 refine ⟨rfl, ?_, (Bt.of_grown (grownBy_sortW _ w g' n d' os)).mono fun k _ hk => by injection hk with hk; rw [hk]; rfl⟩
 have hd : d'.size = ds.length := by rw [hp.1, hsz]
 have hperm : (d'.toList.map fun p => p.1.1).Perm (ds.map fun p => p.1.1) := by
  have h3 := hp.2.2
  rw [← hd, Array.extract_size] at h3
  have h4 : (ds.toArray.extract 0 d'.size).toList = ds := by rw [hd, ← hsz, Array.extract_size]
  rw [h4] at h3
  exact h3.map _
 have hsrt : Srt cmpSets (d'.toList.map fun p => p.1.1) := by
  rw [Srt, List.pairwise_map, List.pairwise_iff_getElem]
  intro i j hi hj hij
  have h5 := hs i j (Nat.zero_le _) hij (by rw [← hd]; simpa using hj)
  simp only [ltOf, decide_eq_false_iff_not, Int.not_lt] at h5
  rw [getElem!_pos d' i (by simpa using hi), getElem!_pos d' j (by simpa using hj)] at h5
  have h6 := ordS.sgn d'[i].1.1 d'[j].1.1
  have h7 := ordS.sgn d'[j].1.1 d'[i].1.1
  simp only [Array.getElem_toList]
  omega
 have heq : sortS (ds.map fun p => p.1.1) = d'.toList.map fun p => p.1.1 := (sortB_of ordS hperm hsrt).symm
 rw [heq]
 have hbt := grownBy_sortW (fun p : SE (fun b => T b ∧ b ≠ g') w => p.1.2) w g' n d' os
 have ho := ownsRow_sortW (q := n) (os := os) hrow2 (ys := d'.toList) (by simpa using hd)
 refine ⟨d'.toList.map fun p => p.1.2, ?_, ?_⟩
 ·rw [List.length_map, show d'.toList.length = ds.length from by simpa using hd]
  simpa using ho
 ·rw [own_eq]
  exact se_flat (fun x u hx => RLbs.good.move hx ((Kp.grown hbt).mono fun k _ h e => h.2 (by injection e))) _
end
section
open Go.Shelf
attribute [local go_sem] Oper.semAt_some

def lastL (s : Sy) (tr : List Lb) : Nat → List Int
 | 0 => []
 | k + 1 => afterL s (tr.take k)

set_option maxHeartbeats 1000000 in
set_option maxRecDepth 100000 in
theorem after_c (S : Nat → Prop) (s : Sy) (hok : okSyP s) (g : Nat) (tr : List Lb) (v : Value) (w : World) (hS : IsSys S w g s) (ht : RLbs S w tr [v]) (htr : tr.length ≤ 4611686018427387903) :
  Calls Tryz.prog 81 #[.pointer (some ⟨g, 0, none⟩), v] w (RowPost w.heap.size (afterL s tr) w) := by
 have HS := Lib.hid hS
 have HT := Lib.hid ht
 obtain ⟨At, ct, rfl, hct, hct0⟩ := ht.val
 clear hS ht
 refine (callsIn_wide (n := 3)).1 ?_
 refine callsIn_of_wp_marks Tryz.func81 rfl trivial ?_ rfl
 simp only [Tryz.ntmps81, List.size_toArray, List.length_cons, List.length_nil, Nat.reduceAdd, Nat.reduceSub, Array.replicate_succ, Array.replicate_zero, List.push_toArray, List.append_toArray, List.nil_append, List.cons_append]
 gi_wp2_with fail
 refine ⟨trivial, ?_⟩
 gi_at_call 150
 refine (strolled 2 (some ⟨g, 0, none⟩) At tr.length ct _).mono ?_
 rintro e w1 ⟨rfl, rfl⟩
 gi_wp2_with fail
 obtain ⟨W0, hW0⟩ : ∃ W0, ((w.alloc (.cells #[.slice none 0 0] 53)).alloc (.cells #[.pointer (some ⟨g, 0, none⟩)] 111)).alloc (.cells #[.slice At tr.length ct] 22) = W0 := ⟨_, rfl⟩
 have hsz0 : W0.heap.size = w.heap.size + 3 := by rw [← hW0]; simp
 have hX0 : Ext w W0 := by rw [← hW0]; exact (((Ext.refl w).alloc _).alloc _).alloc _
 have bo0 : Boxed W0 w.heap.size 53 (.slice none 0 0) := by rw [← hW0]; exact ((Boxed.new w 53 _).alloc _).alloc _
 have bs0 : Boxed W0 (w.heap.size + 1) 111 (.pointer (some ⟨g, 0, none⟩)) := by
  rw [← hW0]
  have := (Boxed.new (w.alloc (.cells #[.slice none 0 0] 53)) 111 (.pointer (some ⟨g, 0, none⟩))).alloc (.cells #[.slice At tr.length ct] 22)
  rwa [World.size_alloc] at this
 have bt0 : Boxed W0 (w.heap.size + 2) 22 (.slice At tr.length ct) := by
  rw [← hW0]
  have := Boxed.new ((w.alloc (.cells #[.slice none 0 0] 53)).alloc (.cells #[.pointer (some ⟨g, 0, none⟩)] 111)) 22 (.slice At tr.length ct)
  rwa [World.size_alloc, World.size_alloc] at this
 rw [hW0]
 clear hW0
 obtain ⟨Z, hZ⟩ : ∃ Z : Nat → Prop, Z = fun q => (S q ∧ q < w.heap.size) ∨ q = w.heap.size + 1 ∨ q = w.heap.size + 2 := ⟨_, rfl⟩
 have hS0 : IsSys Z W0 g s := (HS.out.mono (S' := Z) fun q h1 h2 => by rw [hZ]; exact .inl ⟨h2, h1⟩).bel hX0
 have hT0 : RLbs Z W0 tr [.slice At tr.length ct] := RLbs.good.bel (RLbs.good.mono HT.out (S' := Z) fun q h1 h2 => by rw [hZ]; exact .inl ⟨h2, h1⟩) hX0
 refine wpIn_range_G (by omega) (gf := 220) (lb := #[.pointer (some ⟨w.heap.size + 1, 0, none⟩), .pointer (some ⟨w.heap.size + 2, 0, none⟩)]) rfl (enters_of Tryz.func220 (by kernel_rfl) rfl)
  (walk_gives (3 - 1) (by omega) (fun b => b = w.heap.size) Z s hok g tr _ (w.heap.size + 1) (w.heap.size + 2) W0 (fun k hk => by
   rw [hZ] at hk
   rcases hk with ⟨_, h⟩ | h | h <;> constructor <;> omega) (fun k hk => by omega) hS0 hT0 (by rw [hZ]; exact .inr (.inl rfl)) (by rw [hZ]; exact .inr (.inr rfl)) bs0.cell bt0.cell htr)
  (fun _ => rfl) kc_t (fun W l o o' h1 h2 h3 => kc_b W l o o' h1 h2 h3)
  (fun pre W => Bt (fun b => b = w.heap.size) W0 W ∧ pre.length ≤ tr.length + 1 ∧ ∃ vo, Boxed W w.heap.size 53 vo ∧ ROwn RInt 1 3 W0.heap.size (fun _ => False) W (lastL s tr pre.length) vo) (fun _ _ _ => False) ?own (fun _ _ _ _ _ hs _ _ => hs)
  ⟨Bt.refl _ _, by simp, _, bo0, ROwn.nil ..⟩
  (fun pre x a' W => walkG s tr W0.heap.size pre x W ∧ a' = { tmps := #[.pointer (some ⟨g, 0, none⟩), .slice At tr.length ct, undef, undef, .slice none 0 0, .pointer (some ⟨w.heap.size, 0, none⟩), undef, x.2, .pointer (some ⟨g, 0, none⟩), .slice At tr.length ct, .func (.func 220) #[] #[.pointer (some ⟨w.heap.size + 1, 0, none⟩), .pointer (some ⟨w.heap.size + 2, 0, none⟩)], .int .i64 (x.1 : Int), x.2, undef, undef], defers := [] })
  (fun pre x a' _ X Y row hs hg hr => ⟨⟨hs.1.1, hs.1.2.1, rown_own () X Y row hs.1.2.2 hg hr⟩, hs.2⟩)
  ?assign ?body ?done ?stop
 case own =>
  rintro pre X Y r ⟨h1, h0, vo, h2, h3⟩ hg hr
  have hlow : ∀ q, q < X.heap.size → q < W0.heap.size → Y.heap[q]? = X.heap[q]? := fun q h4 h5 => hg.block q h4 fun e => by have := (hr q e.symm).1; omega
  exact ⟨⟨hg.os.trans h1.os, hg.tape.trans h1.tape, hg.output.trans h1.output, Nat.le_trans h1.size hg.size, fun k hk hz => (hlow k (Nat.lt_of_lt_of_le hk h1.size) hk).trans (h1.block k hk hz)⟩, h0, vo, (hlow _ h2.lt (by omega)).trans h2, rown_own () X Y r h3 hg hr⟩
 case assign =>
  rintro l2 pre ⟨xi, xv⟩ W Kc' hI hG hK
  unfold wkArgs
  simp only
  gi_wp2
  exact hK _ _ (KeepsFrom.refl _ _) ⟨Nat.le_refl _, fun _ _ h _ _ => h⟩ hI ⟨hG, rfl⟩
 case body =>
  rintro l2 pre ⟨xi, xv⟩ a' W hl2 _ ⟨hb, hl, vo, q, ho⟩ ⟨⟨hx1, hx2, hx3⟩, rfl⟩
  simp only at hx1 hx2 hx3
  obtain ⟨A3, c3, rfl, _, _⟩ := (hx3.sl RInt.good (by decide)).val
  have y := q.cell
  have y' := q.frozen
  have HQ := Lib.hid q
  have HX3 := Lib.hid hx3
  have HO := Lib.hid ho
  clear q hx3 ho
  gi_wp2
  have hs := Bt.set (Bt.refl (fun b => b = w.heap.size) W) (p := ⟨w.heap.size, 0, none⟩) (.inr rfl) (.slice A3 (afterL s (tr.take pre.length)).length c3)
  refine ⟨(KeepsOthers.setCell _ _ _).from _, Kc.of_bt hs, hb.trans hs, by simp; omega, _, HQ.out.set _, ?_⟩
  rw [List.length_append, List.length_cons, List.length_nil, lastL]
  exact HX3.out.bt RInt.good hs fun b hb' hz => ⟨fun h => h, fun e => by
   obtain ⟨news, h1, _⟩ := HX3.out
   have := (own_row_base h1 b e).1
   have hz' : b = w.heap.size := hz
   omega⟩
 case done =>
  rintro D ys W hD hys ⟨hb, hl, vo, q, ho⟩ hD0
  rw [hys] at ho
  simp only [lastL, List.take_length] at ho
  obtain ⟨A3, c3, rfl, _, _⟩ := (ho.sl RInt.good (by decide)).val
  have y := q.cell
  have HO := Lib.hid ho
  have HD := Lib.hid hD0
  have HB := Lib.hid hb
  clear q ho hD0 hb
  gi_wp2
  have hXW : Ext w W := Bt.new hX0 HB.out fun i _ hi => by have hi' : i = w.heap.size := hi; omega
  have hM : Marks W0.heap.size [{ target := .collected D, args := #[] }] W := (Marks.nil W0.heap.size W0).cons hD (by omega) HD.out (fun r h1 h2 => (HB.out.block r h1 (by
   rintro rfl
   rw [show W0.heap[w.heap.size]? = _ from bo0] at h2
   cases h2)).trans h2)
  refine Marks.leave (by simp) hM fun w3 hb3 => ?_
  refine ⟨_, results_tmp rfl _ _ _, _, rfl, ?_, ?_⟩
  ·exact (HO.out.bt RInt.good hb3 fun b _ hz => ⟨fun h => h, HO.out.not_def hz.2⟩).base (by omega)
  ·exact Bt.new hXW hb3 fun i _ hi => by have := hi.1; omega
 case stop =>
  rintro D c pre W _ _ h _
  exact h.elim
end
section
open Go.ChangeShapes Go.WideShapes Go.ChangeAt

section
variable {H : Type} {enc : TypeId × Value → H} {W : World} {sp : Nat → Bool} {held : Bool}
theorem bulkAll_sum : ∀ (l : List Nat) (es : List (DataW H)), l.length = es.length → (∀ i, (h : i < l.length) → (h' : i < es.length) → l[i] ≤ Rows.uptoBulk es[i]) → l.sum ≤ Rows.uptoBulkAll es
 | [], [], _, _ => by simp [Rows.uptoBulkAll]
 | [], _ :: _, h, _ => by simp at h
 | _ :: _, [], h, _ => by simp at h
 | x :: l, e :: es, h, hi => by
  rw [List.sum_cons, Rows.uptoBulkAll]
  have h0 := hi 0 (by simp) (by simp)
  have := bulkAll_sum l es (by simpa using h) fun i h1 h2 => hi (i + 1) (Nat.succ_lt_succ h1) (Nat.succ_lt_succ h2)
  simp only [List.getElem_cons_zero] at h0
  omega
/-- A slice, its elements read one by one. -/
theorem open_sl {α : Type} {R : Rdr α} {k : Nat} (hk : 0 < k) {t te : TypeId} {fuel : Nat} {cs : List Value} {x : DataW H × List MemPlace} (sz : α → Nat) (ht : Tryz.prog.underlying t = some (.slice te)) (hc : Tryz.prog.cellsOf te = k)
  (h : DataW.trod enc Tryz.prog W 0 sp held fuel t cs = some x) (hel : ∀ n, n < fuel → ∀ cs y, DataW.trod enc Tryz.prog W 0 sp held n te cs = some y → cs.length = k ∧ ∃ a, R (fun _ => True) W a cs ∧ sz a ≤ Rows.uptoBulk y.1) :
  ∃ l v, cs = [v] ∧ RSl R k (fun _ => True) W l [v] ∧ (l.map sz).sum ≤ Rows.uptoBulk x.1 := by
 rcases DataW.trod_slice ht h with ⟨rfl, rfl⟩ | ⟨a, len, cap, elems, rest, n, rfl, rfl, rfl, _, h1, h2, h3, h4, _, _⟩
 ·exact ⟨[], _, rfl, ⟨none, 0, rfl, Nat.le_refl _, by decide, .inl rfl⟩, by simp⟩
 ·have hx : ∀ i : Fin len, ∃ a' ds, R (fun _ => True) W a' ds ∧ ds.length = k ∧ W.cells? 0 (a.add (i.1 * k)) k = some ds ∧ sz a' ≤ Rows.uptoBulk (elems[i.1]'(by omega)).1 := fun i => by
   have hi := h4 i.1 i.2
   rw [hc, List.getElem?_eq_getElem (by omega)] at hi
   obtain ⟨ds, hd, hy⟩ := Option.bind_eq_some_iff.1 hi
   obtain ⟨hl, a', ha, hs⟩ := hel n (Nat.lt_succ_self n) ds _ hy
   exact ⟨a', ds, ha, hl, hd, hs⟩
  obtain ⟨f, hf⟩ := Classical.axiomOfChoice hx
  have hlen : (List.ofFn f).length = len := List.length_ofFn
  have hget : ∀ i, (h : i < len) → (List.ofFn f)[i]'(by rw [hlen]; exact h) = f ⟨i, h⟩ := fun i h => by simp
  refine ⟨List.ofFn f, _, rfl, ⟨some a, cap, by rw [hlen], by rw [hlen]; exact h1, by unfold maxLen at h2; omega, ?_⟩, ?_⟩
  ·by_cases h0 : len = 0
   ·left
    exact List.length_eq_zero_iff.1 (by rw [hlen]; exact h0)
   ·right
    obtain ⟨b, off, spot⟩ := a
    obtain ⟨ds, _, hl0, hc0, _⟩ := hf ⟨0, by omega⟩
    obtain ⟨_, _, hcell0⟩ := World.cells?_some hc0
    have g0 := hcell0 0 hk
    rw [List.getElem?_eq_getElem (by omega)] at g0
    have hspot : spot = none := by simpa [Addr.add] using World.cell?_spot g0
    subst hspot
    refine ⟨b, off, rfl, World.block_lt_of_cell? W _ (by simpa [Addr.add] using g0), trivial, RowAt.of_get fun i hi => ?_⟩
    rw [hlen] at hi
    obtain ⟨ds, hr, hl, hcs, _⟩ := hf ⟨i, hi⟩
    obtain ⟨_, _, hcell⟩ := World.cells?_some hcs
    refine ⟨ds, hl, by rw [hget i hi]; exact hr, fun j u hj => ?_⟩
    have hjk : j < k := by rw [← hl]; exact (List.getElem?_eq_some_iff.1 hj).1
    have := hcell j hjk
    rw [hj] at this
    rw [Addr.add_lit, Addr.add_lit] at this
    exact this
  ·have hb := bulkAll_sum ((List.ofFn f).map sz) (elems.map (·.1)) (by simp [h3]) fun i h h' => by
    have hi : i < len := by simpa using h
    obtain ⟨_, _, _, _, hs⟩ := hf ⟨i, hi⟩
    simpa using hs
   simp only [Rows.uptoBulk]
   omega
theorem i64_of {n : Int} (h : (Lit.int .i64 n).wf = true) : I64 n := by
 simp only [Lit.wf, Bool.and_eq_true, decide_eq_true_eq] at h
 have h1 : IntKind.i64.min = -9223372036854775808 := by decide
 have h2 : IntKind.i64.max = 9223372036854775807 := by decide
 rw [h1, h2] at h
 unfold I64
 omega
theorem list2 {α : Type} : ∀ {l : List α}, l.length = 2 → ∃ a b, l = [a, b]
 | [a, b], _ => ⟨a, b, rfl⟩
theorem list3 {α : Type} : ∀ {l : List α}, l.length = 3 → ∃ a b c, l = [a, b, c]
 | [a, b, c], _ => ⟨a, b, c, rfl⟩
theorem k3 : Tryz.prog.cellsOf 3 = 1 := by kernel_rfl
theorem k59 : Tryz.prog.cellsOf 59 = 1 := by kernel_rfl
theorem k22 : Tryz.prog.cellsOf 22 = 1 := by kernel_rfl
theorem k23 : Tryz.prog.cellsOf 23 = 1 := by kernel_rfl
theorem k159 : Tryz.prog.cellsOf 159 = 3 := by kernel_rfl
theorem k61 : Tryz.prog.cellsOf 61 = 2 := by kernel_rfl
theorem k88 : Tryz.prog.cellsOf 88 = 3 := by kernel_rfl
theorem k25 : Tryz.prog.cellsOf 25 = 3 := by kernel_rfl
theorem sizes_sum : ∀ l : List Tm, (l.map Tm.size).sum = Tm.sizes l
 | [] => by rw [Tm.sizes]; rfl
 | t :: ts => by rw [Tm.sizes, List.map_cons, List.sum_cons, sizes_sum ts]
theorem open_tm : ∀ (fuel : Nat) (cs : List Value) (x : DataW H × List MemPlace), DataW.trod enc Tryz.prog W 0 sp held fuel 159 cs = some x → cs.length = 3 ∧ ∃ t : Tm, RTm (fun _ => True) W t cs ∧ t.size ≤ Rows.uptoBulk x.1 := by
 intro fuel
 induction fuel using Nat.strongRecOn with
 | _ fuel ih =>
 intro cs x h
 obtain ⟨xs, n, rfl, rfl, hl, hlen, hf⟩ := DataW.trod_struct Tryz.underlying159 h
 have hl3 : cs.length = 3 := by rw [hl, k159]
 obtain ⟨c0, c1, c2, rfl⟩ := list3 hl3
 obtain ⟨y0, y1, y2, rfl⟩ := list3 (show xs.length = 3 from hlen)
 clear hl hlen hl3
 have g0 : DataW.trod enc Tryz.prog W 0 sp held n 3 (([c0, c1, c2].drop 0).take (Tryz.prog.cellsOf 3)) = some y0 := hf 0 _ rfl
 rw [k3] at g0
 have g1 : DataW.trod enc Tryz.prog W 0 sp held n 3 (([c0, c1, c2].drop 1).take (Tryz.prog.cellsOf 3)) = some y1 := hf 1 _ rfl
 rw [k3] at g1
 have g2 : DataW.trod enc Tryz.prog W 0 sp held n 59 (([c0, c1, c2].drop 2).take (Tryz.prog.cellsOf 59)) = some y2 := hf 2 _ rfl
 rw [k59] at g2
 obtain ⟨n0, e0, _, w0⟩ := DataW.trod_int Tryz.underlying3 g0
 obtain ⟨n1, e1, _, w1⟩ := DataW.trod_int Tryz.underlying3 g1
 obtain ⟨l, v, e2, hr, hs⟩ := open_sl (R := RTm) (k := 3) (by decide) Tm.size Tryz.underlying59 k159 g2 (fun m hm cs y hy => ih m (by omega) cs y hy)
 have f0 : c0 = .int .i64 n0 := by injection e0
 have f1 : c1 = .int .i64 n1 := by injection e1
 have f2 : c2 = v := by injection e2
 subst f0 f1 f2
 refine ⟨rfl, .mk n0 n1 l, (RTm_iff ..).2 ⟨i64_of w0, i64_of w1, _, rfl, hr⟩, ?_⟩
 rw [sizes_sum] at hs
 rw [Tm.size]
 simp only [List.map_cons, List.map_nil, Rows.uptoBulk, Rows.uptoBulkAll]
 omega
theorem open_lb (fuel : Nat) (cs : List Value) (x : DataW H × List MemPlace) (h : DataW.trod enc Tryz.prog W 0 sp held fuel 61 cs = some x) : cs.length = 2 ∧ ∃ a : Lb, RLb (fun _ => True) W a cs ∧ a.size ≤ Rows.uptoBulk x.1 := by
 obtain ⟨xs, n, rfl, rfl, hl, hlen, hf⟩ := DataW.trod_struct Tryz.underlying61 h
 have hl3 : cs.length = 2 := by rw [hl, k61]
 obtain ⟨c0, c1, rfl⟩ := list2 hl3
 obtain ⟨y0, y1, rfl⟩ := list2 (show xs.length = 2 from hlen)
 clear hl hlen hl3
 have g0 : DataW.trod enc Tryz.prog W 0 sp held n 3 (([c0, c1].drop 0).take (Tryz.prog.cellsOf 3)) = some y0 := hf 0 _ rfl
 rw [k3] at g0
 have g1 : DataW.trod enc Tryz.prog W 0 sp held n 59 (([c0, c1].drop 1).take (Tryz.prog.cellsOf 59)) = some y1 := hf 1 _ rfl
 rw [k59] at g1
 obtain ⟨n0, e0, _, w0⟩ := DataW.trod_int Tryz.underlying3 g0
 obtain ⟨l, v, e2, hr, hs⟩ := open_sl (R := RTm) (k := 3) (by decide) Tm.size Tryz.underlying59 k159 g1 (fun m _ cs y hy => open_tm m cs y hy)
 have f0 : c0 = .int .i64 n0 := by injection e0
 have f2 : c1 = v := by injection e2
 subst f0 f2
 refine ⟨rfl, ⟨n0, l⟩, ⟨i64_of w0, _, rfl, hr⟩, ?_⟩
 rw [sizes_sum] at hs
 simp only [List.map_cons, List.map_nil, Rows.uptoBulk, Rows.uptoBulkAll]
 show Tm.sizes l ≤ _
 omega
theorem open_ed (fuel : Nat) (cs : List Value) (x : DataW H × List MemPlace) (h : DataW.trod enc Tryz.prog W 0 sp held fuel 88 cs = some x) : cs.length = 3 ∧ ∃ a : Ed, REd (fun _ => True) W a cs ∧ 1 ≤ Rows.uptoBulk x.1 := by
 obtain ⟨xs, n, rfl, rfl, hl, hlen, hf⟩ := DataW.trod_struct Tryz.underlying88 h
 have hl3 : cs.length = 3 := by rw [hl, k88]
 obtain ⟨c0, c1, c2, rfl⟩ := list3 hl3
 obtain ⟨y0, y1, y2, rfl⟩ := list3 (show xs.length = 3 from hlen)
 clear hl hlen hl3
 have g0 : DataW.trod enc Tryz.prog W 0 sp held n 3 (([c0, c1, c2].drop 0).take (Tryz.prog.cellsOf 3)) = some y0 := hf 0 _ rfl
 rw [k3] at g0
 have g1 : DataW.trod enc Tryz.prog W 0 sp held n 3 (([c0, c1, c2].drop 1).take (Tryz.prog.cellsOf 3)) = some y1 := hf 1 _ rfl
 rw [k3] at g1
 have g2 : DataW.trod enc Tryz.prog W 0 sp held n 3 (([c0, c1, c2].drop 2).take (Tryz.prog.cellsOf 3)) = some y2 := hf 2 _ rfl
 rw [k3] at g2
 obtain ⟨n0, e0, _, w0⟩ := DataW.trod_int Tryz.underlying3 g0
 obtain ⟨n1, e1, _, w1⟩ := DataW.trod_int Tryz.underlying3 g1
 obtain ⟨n2, e2, _, w2⟩ := DataW.trod_int Tryz.underlying3 g2
 have f0 : c0 = .int .i64 n0 := by injection e0
 have f1 : c1 = .int .i64 n1 := by injection e1
 have f2 : c2 = .int .i64 n2 := by injection e2
 subst f0 f1 f2
 refine ⟨rfl, ⟨n0, n1, n2⟩, ⟨i64_of w0, i64_of w1, i64_of w2, rfl⟩, ?_⟩
 simp only [Rows.uptoBulk]
 omega
theorem sum_mem : ∀ (l : List Nat) (n : Nat), n ∈ l → n ≤ l.sum
 | x :: l, n, h => by
  rw [List.sum_cons]
  rcases List.mem_cons.1 h with rfl | h
  ·omega
  ·have := sum_mem l n h; omega
theorem open_sy (fuel : Nat) (cs : List Value) (x : DataW H × List MemPlace) (h : DataW.trod enc Tryz.prog W 0 sp held fuel 25 cs = some x) : cs.length = 3 ∧ ∃ s : Sy, RSy (fun _ => True) W s cs ∧ (∀ a ∈ s.ls, a.size ≤ Rows.uptoBulk x.1) := by
 obtain ⟨xs, n, rfl, rfl, hl, hlen, hf⟩ := DataW.trod_struct Tryz.underlying25 h
 have hl3 : cs.length = 3 := by rw [hl, k25]
 obtain ⟨c0, c1, c2, rfl⟩ := list3 hl3
 obtain ⟨y0, y1, y2, rfl⟩ := list3 (show xs.length = 3 from hlen)
 clear hl hlen hl3
 have g0 : DataW.trod enc Tryz.prog W 0 sp held n 3 (([c0, c1, c2].drop 0).take (Tryz.prog.cellsOf 3)) = some y0 := hf 0 _ rfl
 rw [k3] at g0
 have g1 : DataW.trod enc Tryz.prog W 0 sp held n 22 (([c0, c1, c2].drop 1).take (Tryz.prog.cellsOf 22)) = some y1 := hf 1 _ rfl
 rw [k22] at g1
 have g2 : DataW.trod enc Tryz.prog W 0 sp held n 23 (([c0, c1, c2].drop 2).take (Tryz.prog.cellsOf 23)) = some y2 := hf 2 _ rfl
 rw [k23] at g2
 obtain ⟨n0, e0, _, w0⟩ := DataW.trod_int Tryz.underlying3 g0
 obtain ⟨ls, v, e1, hr1, hs1⟩ := open_sl (R := RLb) (k := 2) (by decide) Lb.size Tryz.underlying22 k61 g1 (fun m _ cs y hy => open_lb m cs y hy)
 obtain ⟨es, u, e2, hr2, hs2⟩ := open_sl (R := REd) (k := 3) (by decide) (fun _ => 1) Tryz.underlying23 k88 g2 (fun m _ cs y hy => open_ed m cs y hy)
 have f0 : c0 = .int .i64 n0 := by injection e0
 have f1 : c1 = v := by injection e1
 have f2 : c2 = u := by injection e2
 subst f0 f1 f2
 refine ⟨rfl, ⟨n0, ls, es⟩, ⟨i64_of w0, _, _, rfl, hr1, hr2⟩, fun a ha => ?_⟩
 have h9 : a.size ≤ (ls.map Lb.size).sum := sum_mem _ _ (List.mem_map_of_mem (f := Lb.size) (show a ∈ ls from ha))
 simp only [List.map_cons, List.map_nil, Rows.uptoBulk, Rows.uptoBulkAll]
 omega
end
end
section
open Go.ChangeShapes Go.WideShapes Go.ChangeAt

theorem own : ownKnob Tryz.prog.godebug = none := by kernel_rfl
theorem laid : laidOutB Tryz.prog = true := by kernel_rfl
theorem stays {t : TypeId} (hrec : Tryz.prog.readableRec t = true) (hrow : t < Tryz.prog.types.size) {H : Type} {enc : TypeId × Value → H} {W W' : World} {v : Value} {d : DataW H} {ps : List MemPlace} (h : DataW.Trod enc Tryz.prog W 0 (fun _ => true) true t v d ps) (hx : Ext W W') (hlt : ∀ p ∈ ps, p.block < W.heap.size) (sp : Nat → Bool) (hs : ∀ p ∈ ps, sp p.block = true) : DataW.Trod enc Tryz.prog W' 0 sp true t v d ps := by
 obtain ⟨n, hn⟩ := h
 exact ⟨n, DataW.trod_stays (kids_book laid hrec) (book_sized hrec) (fun h => by cases h) ⟨hrow, book_self t⟩ hn (fun p hp => Below.same hx (hlt p hp)) hs⟩
/-- What is asked behind the call, where nothing that there was has turned. -/
theorem post_ext {H : Type} {enc : TypeId × Value → H} {P : Program} {f : Func} {s : ChangeSpec} {apart fresh handsOn again : Bool} {W W' : World} {args : Array Value} {v : Value} {ds gs : List (DataW H)} {before pa pv : List MemPlace}
  (hW : DataW.Whole enc P f.params.toList s.vars apart W args.toList ds gs before) (hX : Ext W W')
  (hres : ∀ (b : Nat) (sp : Nat → Bool) (hd : Bool), DataW.TrodAll enc P W' b sp hd f.resultTypes.toList (v.resultList f.resultTypes.size) (s.fn H (ds ++ gs)).results [])
  (hargs : ∀ sp : Nat → Bool, (∀ p ∈ before, sp p.block = true) → DataW.TrodAll enc P W' 0 sp true f.params.toList args.toList (s.fn H (ds ++ gs)).args pa)
  (hvars : ∀ sp : Nat → Bool, (∀ p ∈ before, sp p.block = true) → DataW.TrodVars enc P W' sp s.vars (s.fn H (ds ++ gs)).vars pv) (hps : before = pa ++ pv)
  (hok : ∀ (j : Nat) (t : TypeId) (r : Value), f.resultTypes[j]? = some t → (v.resultList f.resultTypes.size)[j]? = some r → Value.okWide P W' .any 0 t r) : s.post enc P f apart fresh handsOn again W args v W' := by
 have hlt := hW.lt
 have hold : ∀ p ∈ before, (fun b => decide (b < W.heap.size)) p.block = true := fun p hp => decide_eq_true (hlt p hp)
 refine ⟨ds, gs, before, [], pa, pv, hW, hres _ _ _, hargs _ hold, hvars _ hold, Below.frame hX _, fun _ => ⟨hok, _, _, ([] ++ pa) ++ pv, ⟨[] ++ pa, pv, trodAll_append (hargs _ fun _ _ => rfl) (hres _ _ _), hvars _ fun _ _ => rfl, rfl, fun b off hp => ?_, fun ha => ?_⟩, fun p hp _ => ?_⟩⟩
 ·have hb : MemPlace.cell b off ∈ before := by rw [hps]; simpa using hp
  obtain ⟨_, _, _, _, _, hz, _⟩ := hW
  exact (Below.frozen hX (p := ⟨b, off, none⟩) (hlt _ hb)).trans (hz b off hb)
 ·obtain ⟨_, _, _, _, _, _, hn⟩ := hW
  have := hn ha
  rw [hps] at this
  simpa using this
 ·rw [hps]
  simpa using hp
section
variable {H : Type} {enc : TypeId × Value → H} {W : World} {sp : Nat → Bool} {held : Bool}
theorem k40 : Tryz.prog.cellsOf 40 = 2 := by kernel_rfl
theorem k22c : Tryz.prog.cellsOf 22 = 1 := by kernel_rfl
theorem open_lb1 (fuel : Nat) (cs : List Value) (x : DataW H × List MemPlace) (h : DataW.trod enc Tryz.prog W 0 sp held fuel 61 cs = some x) : cs.length = 2 ∧ ∃ a : Lb, RLb (fun _ => True) W a cs ∧ 1 ≤ Rows.uptoBulk x.1 := by
 obtain ⟨h1, a, h2, _⟩ := open_lb fuel cs x h
 obtain ⟨xs, n, rfl, rfl, hl, hlen, hf⟩ := DataW.trod_struct Tryz.underlying61 h
 refine ⟨h1, a, h2, ?_⟩
 simp only [Rows.uptoBulk]
 omega
theorem open_lbs (fuel : Nat) (cs : List Value) (x : DataW H × List MemPlace) (h : DataW.trod enc Tryz.prog W 0 sp held fuel 22 cs = some x) : cs.length = 1 ∧ ∃ l : List Lb, RLbs (fun _ => True) W l cs ∧ l.length ≤ Rows.uptoBulk x.1 := by
 obtain ⟨l, v, rfl, hr, hs⟩ := open_sl (R := RLb) (k := 2) (by decide) (fun _ => 1) Tryz.underlying22 k61 h (fun m _ cs y hy => open_lb1 m cs y hy)
 refine ⟨rfl, l, hr, ?_⟩
 have e : ∀ l : List Lb, (l.map fun _ => 1).sum = l.length := by
  intro l
  induction l with
  | nil => rfl
  | cons x l ih => rw [List.map_cons, List.sum_cons, ih, List.length_cons, Nat.add_comm]
 rw [e] at hs
 exact hs
theorem open_lbss (fuel : Nat) (cs : List Value) (x : DataW H × List MemPlace) (h : DataW.trod enc Tryz.prog W 0 sp held fuel 30 cs = some x) : ∃ l v, cs = [v] ∧ RSl RLbs 1 (fun _ => True) W l [v] ∧ ∀ m ∈ l, m.length ≤ Rows.uptoBulk x.1 := by
 obtain ⟨l, v, rfl, hr, hs⟩ := open_sl (R := RLbs) (k := 1) (by decide) List.length Tryz.underlying30 k22c h (fun m _ cs y hy => open_lbs m cs y hy)
 exact ⟨l, v, rfl, hr, fun m hm => Nat.le_trans (sum_mem _ _ (List.mem_map_of_mem (f := List.length) hm)) hs⟩
theorem open_te (fuel : Nat) (cs : List Value) (x : DataW H × List MemPlace) (h : DataW.trod enc Tryz.prog W 0 sp held fuel 40 cs = some x) : cs.length = 2 ∧ ∃ t : Te, RTe (fun _ => True) W t cs ∧ 1 ≤ Rows.uptoBulk x.1 := by
 obtain ⟨xs, n, rfl, rfl, hl, hlen, hf⟩ := DataW.trod_struct Tryz.underlying40 h
 have hl3 : cs.length = 2 := by rw [hl, k40]
 obtain ⟨c0, c1, rfl⟩ := list2 hl3
 obtain ⟨y0, y1, rfl⟩ := list2 (show xs.length = 2 from hlen)
 clear hl hlen hl3
 have g0 : DataW.trod enc Tryz.prog W 0 sp held n 22 (([c0, c1].drop 0).take (Tryz.prog.cellsOf 22)) = some y0 := hf 0 _ rfl
 rw [k22c] at g0
 have g1 : DataW.trod enc Tryz.prog W 0 sp held n 22 (([c0, c1].drop 1).take (Tryz.prog.cellsOf 22)) = some y1 := hf 1 _ rfl
 rw [k22c] at g1
 obtain ⟨_, l, hr, _⟩ := open_lbs n _ _ g0
 obtain ⟨_, m, hr2, _⟩ := open_lbs n _ _ g1
 refine ⟨rfl, ⟨l, m⟩, ⟨c0, c1, rfl, hr, hr2⟩, ?_⟩
 simp only [Rows.uptoBulk]
 omega
theorem open_tes (fuel : Nat) (cs : List Value) (x : DataW H × List MemPlace) (h : DataW.trod enc Tryz.prog W 0 sp held fuel 34 cs = some x) : ∃ l v, cs = [v] ∧ RSl RTe 2 (fun _ => True) W l [v] := by
 obtain ⟨l, v, rfl, hr, _⟩ := open_sl (R := RTe) (k := 2) (by decide) (fun _ => 1) Tryz.underlying34 k40 h (fun m _ cs y hy => open_te m cs y hy)
 exact ⟨l, v, rfl, hr⟩
end
end
end Go.Proofs.YtegenalcheooeaaGreat
