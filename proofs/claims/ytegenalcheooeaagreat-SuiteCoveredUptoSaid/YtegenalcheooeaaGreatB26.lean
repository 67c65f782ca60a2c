/- Of the proof of a law of the suites: LSortE. -/
import Derived.Test.YtegenalcheooeaaGreatB14
import Derived.Test.YtegenalcheooeaaGreatB24
import Derived.Test.YtegenalcheooeaaGreatLaid
import Derived.Shelf.SlSortCmp.WholeK
import Derived.Shelf.SlSortCmp.NoneTotal
import Derived.Lib.OwnBridge
/- slices.SortFunc at edges. -/
set_option linter.unusedSectionVars false
set_option linter.unusedSimpArgs false
set_option linter.unusedVariables false
namespace Go.Proofs.YtegenalcheooeaaGreat
open Go.RowKit
attribute [local go_sem] cell?_exto
open Go.Shelf Go.Sort Go.Lib

theorem cmpEd_lt (x y : Ed) : cmpEd x y < 0 ↔ x.f < y.f ∨ (x.f = y.f ∧ (x.l < y.l ∨ (x.l = y.l ∧ x.t < y.t))) := by
  unfold cmpEd
  simp only [orI]
  unfold cmpI
  repeat' split
  all_goals omega
theorem cmpEd_eq (x y : Ed) : cmpEd x y = 0 ↔ x.f = y.f ∧ x.l = y.l ∧ x.t = y.t := by
  unfold cmpEd
  simp only [orI]
  unfold cmpI
  repeat' split
  all_goals omega
theorem ordEd : Ord3 cmpEd := {
  sgn x y := by
    have h1 := cmpEd_lt x y
    have h2 := cmpEd_lt y x
    have h3 := cmpEd_eq y x
    omega
  eq x y h := by
    have := (cmpEd_eq x y).1 h
    obtain ⟨f, l, t⟩ := x
    obtain ⟨f', l', t'⟩ := y
    simp only at this
    rw [this.1, this.2.1, this.2.2]
  trans x y z h1 h2 := by
    rw [cmpEd_lt] at *
    omega }

abbrev EI := { e : Ed // I64 e.f ∧ I64 e.l ∧ I64 e.t }
instance (n : Int) : Decidable (I64 n) := by unfold I64; infer_instance
instance : Inhabited EI := ⟨⟨⟨0, 0, 0⟩, by decide, by decide, by decide⟩⟩
def encE (x : EI) : List Value := [.int .i64 x.1.f, .int .i64 x.1.l, .int .i64 x.1.t]
theorem eg98 : ∀ args w, (callFunc 98 args).run Tryz.prog w = .ok (.enter 98 args) w := enters_of Tryz.func98 (by kernel_rfl) rfl
theorem aE88 : ∀ w, (isAgg 88).run Tryz.prog w = .ok true w := fun w => by simp [isAgg, underlying, Tryz.underlying88, Result.andThen]
theorem zE88 : ∀ w, (Go.sizeOf 88).run Tryz.prog w = .ok 3 w := fun w => by
  obtain ⟨i, hi, hz⟩ := Option.map_eq_some_iff.1 info88b
  simp only [Prod.mk.injEq] at hz
  simp [sizeOf, rl_info 88 i hi, hz.2.1, Result.andThen]
theorem toEI : ∀ {l : List Ed}, (∀ x ∈ l, I64 x.f ∧ I64 x.l ∧ I64 x.t) → ∃ ds : List EI, ds.map (·.1) = l
  | [], _ => ⟨[], rfl⟩
  | x :: l, h => by
    obtain ⟨ds, e⟩ := toEI (l := l) fun y hy => h y (List.mem_cons_of_mem _ hy)
    exact ⟨⟨x, h x (List.mem_cons_self ..)⟩ :: ds, by rw [List.map_cons, e]⟩
theorem encE_len (x : EI) : (encE x).length = 3 := rfl
theorem flatMap_get : ∀ (d : List EI) (t : Nat), t < d.length * 3 → (d.flatMap encE)[t]? = some ((encE d[t / 3]!)[t % 3]!)
  | [], t, h => by simp at h
  | x :: d, t, h => by
    rw [List.flatMap_cons, List.getElem?_append, encE_len]
    by_cases h3 : t < 3
    · rw [if_pos h3]
      have : t / 3 = 0 := by omega
      rw [this]
      have hm : t % 3 = t := by omega
      rw [hm]
      have : t = 0 ∨ t = 1 ∨ t = 2 := by omega
      rcases this with rfl | rfl | rfl <;> rfl
    · rw [if_neg h3, flatMap_get d (t - 3) (by rw [List.length_cons] at h; omega)]
      have e1 : t / 3 = (t - 3) / 3 + 1 := by omega
      have e2 : t % 3 = (t - 3) % 3 := by omega
      rw [e1, e2]
      rfl
theorem flatMap_len (d : List EI) : (d.flatMap encE).length = d.length * 3 := by
  induction d with
  | nil => rfl
  | cons x d ih => rw [List.flatMap_cons, List.length_append, ih, encE_len, List.length_cons]; omega
theorem flatK_list (d : Array EI) : (flatK encE 3 d).toList = d.toList.flatMap encE := by
  apply List.ext_getElem
  · rw [flatMap_len]; simp
  · intro t h1 h2
    have ht : t < d.size * 3 := by simpa using h1
    have e1 := get_flatK encE 3 d t ht
    rw [getElem!_pos _ t (by simpa using ht)] at e1
    have e2 := flatMap_get d.toList t (by simpa using ht)
    rw [List.getElem?_eq_getElem h2] at e2
    injection e2 with e2
    rw [e2, Array.getElem_toList, e1]
    have h3 : t / 3 < d.size := by omega
    rw [getElem!_pos d (t / 3) h3, getElem!_pos d.toList (t / 3) (by simpa using h3), Array.getElem_toList]
theorem flatE (S : Nat → Prop) (w : World) : ∀ d : List EI, Flat REd 3 S w (d.map (·.1)) (d.flatMap encE)
  | [] => rfl
  | x :: d => ⟨encE x, d.flatMap encE, rfl, rfl, ⟨x.2.1, x.2.2.1, x.2.2.2, rfl⟩, flatE S w d⟩
theorem REd.i64 {S : Nat → Prop} {w : World} : ∀ {l : List Ed} {cs : List Value}, Flat REd 3 S w l cs → ∀ x ∈ l, I64 x.f ∧ I64 x.l ∧ I64 x.t
  | [], _, _ => by simp
  | x :: l, cs, ⟨c1, c2, h1, h2, h3, h4⟩ => fun y hy => by
    rcases List.mem_cons.1 hy with rfl | hy
    · exact ⟨h3.1, h3.2.1, h3.2.2.1⟩
    · exact REd.i64 h4 y hy
set_option maxHeartbeats 1000000 in
set_option maxRecDepth 100000 in
theorem sortE_own (base : Nat) (T : Nat → Prop) (l : List Ed) (v : Value) (w : World) (hown : ROwn REd 3 88 base T w l v) (hlen : l.length < 4611686018427387904) :
    Calls Tryz.prog 248 #[v, .func (.func 98) #[] #[]] w fun e w' => e = .returned (.tuple #[]) ∧ ROwn REd 3 88 base T w' (sortB cmpEd l) v ∧ Bt (fun b => v.ownBlock = some b) w w' := by
  have hsl := hown.sl REd.good (by decide)
  obtain ⟨news, hrow, hF⟩ := hown
  rcases hrow.2 with ⟨rfl, h⟩ | ⟨g, cap, cur, rfl, hb, hg, hn, hm, hs, ht⟩
  · have hl0 : l = [] := List.length_eq_zero_iff.1 h
    subst hl0
    refine (AnyF.slices_SortFunc_none Tryz.lays248 none 0 _ w).mono ?_
    rintro e w' ⟨rfl, rfl⟩
    exact ⟨rfl, ROwn.nil .., Bt.refl _ _⟩
  obtain ⟨ds, rfl⟩ := toEI (REd.i64 hF)
  have hgl : g < w.heap.size := (Array.getElem?_eq_some_iff.1 hg).1
  have hn' : (ds.map (·.1)).length = ds.length := List.length_map ..
  have hH : HoldsK encE 3 w g 0 ds.toArray := by
    intro j hj
    have hj' : j < ds.length * 3 := by simpa using hj
    refine ⟨?_, by simp [World.frozen?, hg]⟩
    have e1 := get_flatK encE 3 ds.toArray j (by simpa using hj')
    rw [id, e1]
    obtain ⟨i, r, hr3, rfl⟩ : ∃ i r, r < 3 ∧ j = i * 3 + r := ⟨j / 3, j % 3, by omega, by omega⟩
    rw [show (i * 3 + r) / 3 = i by omega, show (i * 3 + r) % 3 = r by omega]
    have hid : i < ds.length := by omega
    have hi : i < (ds.map (·.1)).length := by rw [hn']; omega
    obtain ⟨b, off, cs, he, _, _, _, hr, hcell⟩ := hsl.get i hi
    injection he with he
    injection he with he1 he2
    subst he1 he2
    obtain ⟨_, _, _, rfl⟩ := hr
    have hx : (ds.map (·.1))[i] = (ds.toArray[i]!).1 := by
      rw [getElem!_pos ds.toArray i (by simpa using hid)]
      simp
    rw [hx] at hcell
    have : r = 0 ∨ r = 1 ∨ r = 2 := by omega
    rcases this with rfl | rfl | rfl
    · have := hcell 0 (.int .i64 (ds.toArray[i]!).1.f) rfl
      rw [Nat.zero_add] at this ⊢
      exact this
    · have := hcell 1 (.int .i64 (ds.toArray[i]!).1.l) rfl
      rw [Nat.zero_add] at this ⊢
      exact this
    · have := hcell 2 (.int .i64 (ds.toArray[i]!).1.t) rfl
      rw [Nat.zero_add] at this ⊢
      exact this
  have hsz : ds.toArray.size = ds.length := by simp
  have hcmp : CmpLays Tryz.prog 98 #[] encE 3 (fun x y : EI => cmpEd x.1 y.1) g 0 ds.toArray.size w := fun m os dk _ x y => by
    refine (compareEdges_c (fun _ => True) x.1 y.1 (encE x) (encE y) _ ⟨x.2.1, x.2.2.1, x.2.2.2, rfl⟩ ⟨y.2.1, y.2.2.1, y.2.2.2, rfl⟩).mono ?_
    rintro e w' ⟨rfl, h⟩
    exact ⟨rfl, extD_grow h⟩
  have h := AnyQ.slices_SortFunc Tryz.lays248 3 aE88 zE88 encE (fun _ => rfl) (fun x v hv => by simp [encE] at hv; rcases hv with rfl | rfl | rfl <;> rfl) (fun x y : EI => cmpEd x.1 y.1) (swo_of ordEd _) 98 #[] g 0 cap ds.toArray w eg98 hcmp hH hgl (by rw [hsz, ← hn']; exact hlen)
  rw [hsz] at h
  rw [hn']
  refine h.mono ?_
  rintro e w' ⟨rfl, d', n, os, hp, hs', rfl⟩
  have hd : d'.size = ds.length := by rw [hp.1, hsz]
  have hperm : (d'.toList.map (·.1)).Perm (ds.map (·.1)) := by
    have h3 := hp.2.2
    rw [← hd, Array.extract_size] at h3
    have h4 : (ds.toArray.extract 0 d'.size).toList = ds := by rw [hd, ← hsz, Array.extract_size]
    rw [h4] at h3
    exact h3.map _
  have hsrt : Srt cmpEd (d'.toList.map (·.1)) := by
    rw [Srt, List.pairwise_map, List.pairwise_iff_getElem]
    intro i j hi hj hij
    have h5 := hs' i j (Nat.zero_le _) hij (by rw [← hd]; simpa using hj)
    simp only [ltOf, decide_eq_false_iff_not, Int.not_lt] at h5
    rw [getElem!_pos d' i (by simpa using hi), getElem!_pos d' j (by simpa using hj)] at h5
    have h6 := ordEd.sgn d'[i].1 d'[j].1
    have h7 := ordEd.sgn d'[j].1 d'[i].1
    simp only [Array.getElem_toList]
    omega
  have heq : sortB cmpEd (ds.map (·.1)) = d'.toList.map (·.1) := (sortB_of ordEd hperm hsrt).symm
  rw [heq]
  have hput : w.grownBy (sortWorldK encE 3 w g 0 n d' os) (some g) := by
    have := grownBy_sortW (α := Value) id w g n (flatK encE 3 d') os
    exact this
  have hFs : (flatK encE 3 d').size = ds.length * 3 := by rw [size_flatK, hd]
  have hle : ds.length * 3 ≤ cur.size := by rw [hs, ← hn']; exact Nat.mul_le_mul_right 3 hn
  have hrow1 : (putRow id (Sort.ahead w n) g 0 (flatK encE 3 d')).ownsRow base 88 3 (.slice (some ⟨g, 0, none⟩) ds.length cap) ds.length (d'.toList.flatMap encE) := by
    refine ⟨by rw [flatMap_len]; simp [hd], .inr ⟨g, cap, putCells id 0 (flatK encE 3 d') cur, rfl, hb, ?_, by rw [← hn']; exact hn, hm, by simpa [putCells] using hs, ?_⟩⟩
    · simp [putRow, mapBlock, Sort.ahead, Array.getElem?_modify, hg, onCells]
    · rw [← flatK_list]
      apply List.ext_getElem?
      intro j
      rw [List.getElem?_take, Array.getElem?_toList, Array.getElem?_toList]
      by_cases hj : j < ds.length * 3
      · have hjc : j < cur.size := by omega
        rw [if_pos hj]
        simp only [putCells, Array.getElem?_mapIdx, Array.getElem?_eq_getElem hjc, Option.map_some]
        rw [if_pos (by omega), Array.getElem?_eq_getElem (by omega)]
        rw [getElem!_pos _ _ (by show j - 0 < _; omega)]
        rfl
      · rw [if_neg hj, Array.getElem?_eq_none (by omega)]
  refine ⟨rfl, ⟨d'.toList.flatMap encE, ?_, flatE _ _ _⟩, (Bt.of_grown hput).mono fun k _ hk => by injection hk with hk; rw [hk]; rfl⟩
  rw [List.length_map, show d'.toList.length = ds.length from by simpa using hd]
  exact hrow1.kept (grown_grow _ os) (.inr (by simp [Value.ownBlock]))
end Go.Proofs.YtegenalcheooeaaGreat

