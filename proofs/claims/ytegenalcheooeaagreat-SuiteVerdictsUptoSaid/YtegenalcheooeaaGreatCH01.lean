/- Of the proof of a law of the suites: Laid2, LSortL. -/
import Derived.Test.YtegenalcheooeaaGreatB04
import Derived.Test.YtegenalcheooeaaGreatB14
import Derived.Test.YtegenalcheooeaaGreatLaid
import Derived.Shelf.SlSortCmp.WholeK
import Derived.Shelf.SlSortCmp.NoneTotal
import Derived.Lib.OwnBridge
/- The library's SortFunc at labels: what the kit's contract asks of it. -/
set_option maxRecDepth 100000
namespace Go.Proofs
open Go.Shelf
def Tryz.lays56_ren : Go.Shelf.Ren := ⟨fun | 6 => 56 | 15 => 118 | 14 => 117 | 28 => 185 | 29 => 186 | 20 => 177 | 21 => 178 | 22 => 179 | 23 => 180 | 24 => 181 | 25 => 182 | 26 => 183 | 27 => 184 | 46 => 235 | 47 => 236 | 48 => 237 | 49 => 238 | 50 => 239 | 57 => 267 | n => n, fun | 22 => 22 | 24 => 61 | 25 => 84 | 3 => 3 | 39 => 154 | 0 => 0 | 53 => 221 | 55 => 223 | 4 => 4 | 46 => 214 | 45 => 213 | 50 => 218 | 5 => 5 | 9 => 9 | 66 => 258 | 70 => 262 | 76 => 283 | 77 => 252 | n => n, fun | n => n⟩
theorem Tryz.lays56 : Go.Proofs.SlLaysF0.n6 Tryz.prog Tryz.lays56_ren := {
  mixed := by kernel_rfl
  f6 := ⟨Tryz.f56.name, by decide, Tryz.func56.trans (congrArg some (by kernel_rfl))⟩
  f14 := ⟨Tryz.f117.name, by decide, Tryz.func117.trans (congrArg some (by kernel_rfl))⟩
  f15 := Tryz.func118.trans (congrArg some (by kernel_rfl))
  f20 := ⟨Tryz.f177.name, by decide, Tryz.func177.trans (congrArg some (by kernel_rfl))⟩
  f21 := ⟨Tryz.f178.name, by decide, Tryz.func178.trans (congrArg some (by kernel_rfl))⟩
  f22 := ⟨Tryz.f179.name, by decide, Tryz.func179.trans (congrArg some (by kernel_rfl))⟩
  f23 := ⟨Tryz.f180.name, by decide, Tryz.func180.trans (congrArg some (by kernel_rfl))⟩
  f24 := ⟨Tryz.f181.name, by decide, Tryz.func181.trans (congrArg some (by kernel_rfl))⟩
  f25 := ⟨Tryz.f182.name, by decide, Tryz.func182.trans (congrArg some (by kernel_rfl))⟩
  f26 := ⟨Tryz.f183.name, by decide, Tryz.func183.trans (congrArg some (by kernel_rfl))⟩
  f27 := ⟨Tryz.f184.name, by decide, Tryz.func184.trans (congrArg some (by kernel_rfl))⟩
  f28 := Tryz.func185.trans (congrArg some (by kernel_rfl))
  f29 := Tryz.func186.trans (congrArg some (by kernel_rfl))
  f46 := ⟨Tryz.f235.name, by decide, Tryz.func235.trans (congrArg some (by kernel_rfl))⟩
  f47 := Tryz.func236.trans (congrArg some (by kernel_rfl))
  f48 := Tryz.func237.trans (congrArg some (by kernel_rfl))
  f49 := ⟨Tryz.f238.name, by decide, Tryz.func238.trans (congrArg some (by kernel_rfl))⟩
  f50 := ⟨Tryz.f239.name, by decide, Tryz.func239.trans (congrArg some (by kernel_rfl))⟩
  f57 := ⟨Tryz.f267.name, by decide, Tryz.func267.trans (congrArg some (by kernel_rfl))⟩
  t0 := Tryz.underlying0
  a0 := Tryz.isAgg0
  z0 := Tryz.sizeOf0
  v0 := Tryz.zeroValue0
  t3 := Tryz.underlying3
  a3 := Tryz.isAgg3
  z3 := Tryz.sizeOf3
  v3 := Tryz.zeroValue3
  t4 := Tryz.underlying4
  a4 := Tryz.isAgg4
  z4 := Tryz.sizeOf4
  v4 := Tryz.zeroValue4
  t5 := Tryz.underlying5
  a5 := Tryz.isAgg5
  z5 := Tryz.sizeOf5
  v5 := Tryz.zeroValue5
  t9 := Tryz.underlying9
  a9 := Tryz.isAgg9
  z9 := Tryz.sizeOf9
  v9 := Tryz.zeroValue9
  t22 := Tryz.underlying22
  a22 := Tryz.isAgg22
  z22 := Tryz.sizeOf22
  v22 := Tryz.zeroValue22
  t25 := Tryz.underlying84
  a25 := Tryz.isAgg84
  z25 := Tryz.sizeOf84
  v25 := Tryz.zeroValue84
  t39 := Tryz.underlying154
  a39 := Tryz.isAgg154
  z39 := Tryz.sizeOf154
  v39 := Tryz.zeroValue154
  t45 := Tryz.underlying213
  a45 := Tryz.isAgg213
  z45 := Tryz.sizeOf213
  v45 := Tryz.zeroValue213
  t46 := Tryz.underlying214
  a46 := Tryz.isAgg214
  z46 := Tryz.sizeOf214
  v46 := Tryz.zeroValue214
  t50 := Tryz.underlying218
  a50 := Tryz.isAgg218
  z50 := Tryz.sizeOf218
  v50 := Tryz.zeroValue218
  t53 := Tryz.underlying221
  a53 := Tryz.isAgg221
  z53 := Tryz.sizeOf221
  v53 := Tryz.zeroValue221
  t55 := Tryz.underlying223
  a55 := Tryz.isAgg223
  z55 := Tryz.sizeOf223
  v55 := Tryz.zeroValue223
  t66 := Tryz.underlying258
  a66 := Tryz.isAgg258
  z66 := Tryz.sizeOf258
  v66 := Tryz.zeroValue258
  t70 := Tryz.underlying262
  a70 := Tryz.isAgg262
  z70 := Tryz.sizeOf262
  v70 := Tryz.zeroValue262
  t76 := Tryz.underlying283
  a76 := Tryz.isAgg283
  z76 := Tryz.sizeOf283
  v76 := Tryz.zeroValue283
  t77 := Tryz.underlying252
  a77 := Tryz.isAgg252
  z77 := Tryz.sizeOf252
  v77 := Tryz.zeroValue252 }
end Go.Proofs

/- slices.SortFunc at labels. -/
set_option linter.unusedSectionVars false
set_option linter.unusedSimpArgs false
set_option linter.unusedVariables false
namespace Go.Proofs.YtegenalcheooeaaGreat
open Go.RowKit
attribute [local go_sem] cell?_exto
open Go.Shelf Go.Sort Go.Lib

abbrev SLb (S : Nat → Prop) (w : World) : Type := { p : Lb × List Value // RLb S w p.1 p.2 }
instance (S : Nat → Prop) (w : World) : Inhabited (SLb S w) := ⟨⟨(⟨0, []⟩, [.int .i64 0, .slice none 0 0]), by show I64 0; unfold I64; omega, _, rfl, none, 0, rfl, Nat.le_refl _, by decide, .inl rfl⟩⟩
def encL {S : Nat → Prop} {w : World} (x : SLb S w) : List Value := x.1.2
theorem encL_len {S : Nat → Prop} {w : World} (x : SLb S w) : (encL x).length = 2 := RLb.good.len x.2
theorem eg57 : ∀ args w, (callFunc 57 args).run Tryz.prog w = .ok (.enter 57 args) w := enters_of Tryz.func57 (by kernel_rfl) rfl
theorem aE61 : ∀ w, (isAgg 61).run Tryz.prog w = .ok true w := fun w => by simp [isAgg, underlying, Tryz.underlying61, Result.andThen]
theorem zE61 : ∀ w, (Go.sizeOf 61).run Tryz.prog w = .ok 2 w := fun w => by
  obtain ⟨i, hi, hz⟩ := Option.map_eq_some_iff.1 infoLba
  simp only [Prod.mk.injEq] at hz
  simp [sizeOf, rl_info 61 i hi, hz.2.1, Result.andThen]
section
variable {β : Type} [Inhabited β] (enc : β → List Value) (k : Nat) (hk : 0 < k) (hl : ∀ x, (enc x).length = k)
include hk hl
theorem fmap_len : ∀ d : List β, (d.flatMap enc).length = d.length * k
  | [] => by simp
  | x :: d => by rw [List.flatMap_cons, List.length_append, fmap_len d, hl, List.length_cons, Nat.add_mul]; omega
theorem fmap_get : ∀ (d : List β) (t : Nat), t < d.length * k → (d.flatMap enc)[t]? = some ((enc d[t / k]!)[t % k]!)
  | [], t, h => by simp at h
  | x :: d, t, h => by
    rw [List.flatMap_cons, List.getElem?_append, hl]
    by_cases h3 : t < k
    · rw [if_pos h3, Nat.div_eq_of_lt h3, Nat.mod_eq_of_lt h3]
      have : t < (enc x).length := by rw [hl]; exact h3
      show (enc x)[t]? = some ((enc x)[t]!)
      rw [getElem!_pos _ t this, List.getElem?_eq_getElem this]
    · have hkt : k ≤ t := by omega
      rw [if_neg h3, fmap_get d (t - k) (by rw [List.length_cons, Nat.add_mul] at h; omega)]
      have e1 : t / k = (t - k) / k + 1 := by rw [Nat.div_eq_sub_div hk hkt]
      have e2 : t % k = (t - k) % k := Nat.mod_eq_sub_mod hkt
      rw [e1, e2]
      rfl
theorem fmap_list (d : Array β) : (flatK enc k d).toList = d.toList.flatMap enc := by
  apply List.ext_getElem
  · rw [fmap_len enc k hk hl]; simp
  · intro t h1 h2
    have ht : t < d.size * k := by simpa using h1
    have e1 := get_flatK enc k d t ht
    rw [getElem!_pos _ t (by simpa using ht)] at e1
    have e2 := fmap_get enc k hk hl d.toList t (by simpa using ht)
    rw [List.getElem?_eq_getElem h2] at e2
    injection e2 with e2
    rw [e2, Array.getElem_toList, e1]
    have h3 : t / k < d.size := Nat.div_lt_of_lt_mul (by rw [Nat.mul_comm]; exact ht)
    rw [getElem!_pos d (t / k) h3, getElem!_pos d.toList (t / k) (by simpa using h3), Array.getElem_toList]
end
theorem flat_lb {S : Nat → Prop} {w : World} : ∀ {l : List Lb} {cs : List Value}, Flat RLb 2 S w l cs → ∃ ds : List (SLb S w), ds.map (fun p => p.1.1) = l ∧ ds.flatMap encL = cs
  | [], cs, h => ⟨[], rfl, (show cs = [] from h).symm⟩
  | x :: l, cs, ⟨c1, c2, h1, h2, h3, h4⟩ => by
    obtain ⟨ds, e1, e2⟩ := flat_lb h4
    exact ⟨⟨(x, c1), h3⟩ :: ds, by rw [List.map_cons, e1], by rw [List.flatMap_cons, e2, h1]; rfl⟩
theorem lb_flat {S S' : Nat → Prop} {w w' : World} (hm : ∀ x u, RLb S w x u → RLb S' w' x u) : ∀ ds : List (SLb S w), Flat RLb 2 S' w' (ds.map fun p => p.1.1) (ds.flatMap encL)
  | [] => rfl
  | p :: ds => ⟨encL p, ds.flatMap encL, rfl, encL_len p, hm _ _ p.2, lb_flat hm ds⟩
set_option maxHeartbeats 1000000 in
set_option maxRecDepth 100000 in
theorem sortL_own (base : Nat) (T : Nat → Prop) (l : List Lb) (v : Value) (w : World) (hown : ROwn RLb 2 61 base T w l v) (hlen : l.length < 4611686018427387904) :
    Calls Tryz.prog 56 #[v, .func (.func 57) #[] #[]] w fun e w' => e = .returned (.tuple #[]) ∧ ROwn RLb 2 61 base T w' (sortB cmpLb l) v ∧ Bt (fun b => v.ownBlock = some b) w w' := by
  obtain ⟨news, hrow, hF⟩ := hown
  rcases hrow.2 with ⟨rfl, h⟩ | ⟨g, cap, cur, rfl, hb, hg, hn, hm, hs, ht⟩
  · have hl0 : l = [] := List.length_eq_zero_iff.1 h
    subst hl0
    refine (AnyF.slices_SortFunc_none Tryz.lays56 none 0 _ w).mono ?_
    rintro e w' ⟨rfl, rfl⟩
    exact ⟨rfl, ROwn.nil .., Bt.refl _ _⟩
  rw [own_eq] at hF
  obtain ⟨ds, rfl, rfl⟩ := flat_lb hF
  have hgl : g < w.heap.size := (Array.getElem?_eq_some_iff.1 hg).1
  have hn' : (ds.map fun p => p.1.1).length = ds.length := List.length_map ..
  have hH : HoldsK encL 2 w g 0 ds.toArray := by
    intro j hj
    have hj' : j < ds.length * 2 := by simpa using hj
    refine ⟨?_, by simp [World.frozen?, hg]⟩
    have e1 := get_flatK encL 2 ds.toArray j (by simpa using hj')
    have e2 := fmap_get (encL (S := fun b => T b ∧ b ≠ g) (w := w)) 2 (by decide) encL_len ds j hj'
    rw [← ht, List.getElem?_take, if_pos (by rw [hn']; exact hj'), Array.getElem?_toList] at e2
    rw [id, e1, Nat.zero_add, cell_of_row w g j cur 61 (0, 0) hg, e2]
    congr 2
    rw [show j / 2 = j / 2 from rfl]
    have hd : j / 2 < ds.length := by omega
    rw [getElem!_pos ds.toArray (j / 2) (by simpa using hd), getElem!_pos ds (j / 2) hd]
    simp
  have hsz : ds.toArray.size = ds.length := by simp
  have hput : ∀ m (dk : Array (SLb (fun b => T b ∧ b ≠ g) w)) os, w.grownBy (sortWorldK encL 2 w g 0 m dk os) (some g) := fun m dk os => by
    have := grownBy_sortW (α := Value) id w g m (flatK encL 2 dk) os
    exact this
  have hcmp : CmpLays Tryz.prog 57 #[] encL 2 (fun x y : SLb (fun b => T b ∧ b ≠ g) w => cmpLb x.1.1 y.1.1) g 0 ds.toArray.size w := fun m os dk _ x y => by
    have hk : Kp (fun b => T b ∧ b ≠ g) w (sortWorldK encL 2 w g 0 m dk os) := (Kp.grown (hput m dk os)).mono fun k _ h e => h.2 (by injection e)
    refine (CompareLabels_c (fun b => T b ∧ b ≠ g) x.1.1 y.1.1 (encL x) (encL y) _ (RLb.good.move x.2 hk) (RLb.good.move y.2 hk)).mono ?_
    rintro e w' ⟨rfl, h⟩
    exact ⟨rfl, extD_grow h⟩
  have h := AnyQ.slices_SortFunc Tryz.lays56 2 aE61 zE61 encL encL_len (fun x v hv => RLb.good.one x.2 v hv) (fun x y : SLb (fun b => T b ∧ b ≠ g) w => cmpLb x.1.1 y.1.1) (swo_of ordLb _) 57 #[] g 0 cap ds.toArray w eg57 hcmp hH hgl (by rw [hsz, ← hn']; exact hlen)
  rw [hsz] at h
  rw [hn']
  refine h.mono ?_
  rintro e w' ⟨rfl, d', n, os, hp, hs', rfl⟩
  have hd : d'.size = ds.length := by rw [hp.1, hsz]
  have hperm : (d'.toList.map fun p => p.1.1).Perm (ds.map fun p => p.1.1) := by
    have h3 := hp.2.2
    rw [← hd, Array.extract_size] at h3
    have h4 : (ds.toArray.extract 0 d'.size).toList = ds := by rw [hd, ← hsz, Array.extract_size]
    rw [h4] at h3
    exact h3.map _
  have hsrt : Srt cmpLb (d'.toList.map fun p => p.1.1) := by
    rw [Srt, List.pairwise_map, List.pairwise_iff_getElem]
    intro i j hi hj hij
    have h5 := hs' i j (Nat.zero_le _) hij (by rw [← hd]; simpa using hj)
    simp only [ltOf, decide_eq_false_iff_not, Int.not_lt] at h5
    rw [getElem!_pos d' i (by simpa using hi), getElem!_pos d' j (by simpa using hj)] at h5
    have h6 := ordLb.sgn d'[i].1.1 d'[j].1.1
    have h7 := ordLb.sgn d'[j].1.1 d'[i].1.1
    simp only [Array.getElem_toList]
    omega
  have heq : sortB cmpLb (ds.map fun p => p.1.1) = d'.toList.map fun p => p.1.1 := (sortB_of ordLb hperm hsrt).symm
  rw [heq]
  have hFs : (flatK encL 2 d').size = ds.length * 2 := by rw [size_flatK, hd]
  have hle : ds.length * 2 ≤ cur.size := by rw [hs, ← hn']; exact Nat.mul_le_mul_right 2 hn
  have hrow1 : (putRow id (Sort.ahead w n) g 0 (flatK encL 2 d')).ownsRow base 61 2 (.slice (some ⟨g, 0, none⟩) ds.length cap) ds.length (d'.toList.flatMap encL) := by
    refine ⟨by rw [fmap_len encL 2 (by decide) encL_len]; simp [hd], .inr ⟨g, cap, putCells id 0 (flatK encL 2 d') cur, rfl, hb, ?_, by rw [← hn']; exact hn, hm, by simpa [putCells] using hs, ?_⟩⟩
    · simp [putRow, mapBlock, Sort.ahead, Array.getElem?_modify, hg, onCells]
    · rw [← fmap_list encL 2 (by decide) encL_len]
      apply List.ext_getElem?
      intro j
      rw [List.getElem?_take, Array.getElem?_toList, Array.getElem?_toList]
      by_cases hj : j < ds.length * 2
      · have hjc : j < cur.size := by omega
        rw [if_pos hj]
        simp only [putCells, Array.getElem?_mapIdx, Array.getElem?_eq_getElem hjc, Option.map_some]
        rw [if_pos (by omega), Array.getElem?_eq_getElem (by omega)]
        rw [getElem!_pos _ _ (by show j - 0 < _; omega)]
        rfl
      · rw [if_neg hj, Array.getElem?_eq_none (by omega)]
  refine ⟨rfl, ⟨d'.toList.flatMap encL, ?_, ?_⟩, (Bt.of_grown (hput n d' os)).mono fun k _ hk => by injection hk with hk; rw [hk]; rfl⟩
  · rw [List.length_map, show d'.toList.length = ds.length from by simpa using hd]
    exact hrow1.kept (grown_grow _ os) (.inr (by simp [Value.ownBlock]))
  · rw [own_eq]
    exact lb_flat (fun x u hx => RLb.good.move hx ((Kp.grown (hput n d' os)).mono fun k _ h e => h.2 (by injection e))) _
end Go.Proofs.YtegenalcheooeaaGreat

