/- Of the proof of a law of the suites: LSlice, LSlice2, LUsed1. -/
import Derived.Test.YtegenalcheooeaaGreatB08
import Derived.Test.YtegenalcheooeaaGreatB14
import Derived.Test.YtegenalcheooeaaGreatB17
import Derived.Test.YtegenalcheooeaaGreatB24
import Derived.Test.YtegenalcheooeaaGreatLaid
import Derived.Sort.WalkA
import Derived.Sort.LotA
import Derived.Lib.ReflectliteSwap
import Derived.Laws.Externs
import Derived.Lib.ReflectliteSlice
import Derived.Shelf.Lay
import Derived.Shelf.Small.Bits
import Derived.Ground.Names2Prog
/- sort.Slice at no more than twelve whole numbers, the comparison a function that may lay blocks: walked. -/
set_option linter.unusedSectionVars false
set_option linter.unusedSimpArgs false
set_option linter.unusedVariables false
namespace Go.Proofs.YtegenalcheooeaaGreat
open Go.RowKit
attribute [local go_sem] cell?_exto
open Go.Shelf Go.Sort Go.Lib

abbrev ROrd (base : Nat) (W : World) (d : Array Int) (g n c : Nat) : Prop := ROwn RInt 1 3 base (fun _ => False) W d.toList (.slice (some ⟨g, 0, none⟩) n c)
theorem swp_list (d : Array Int) (i j : Nat) (hi : i < d.size) (hj : j < d.size) : (swp d i j).toList = (d.toList.set i d[j]!).set j d[i]! := by
  simp [swp, Array.toList_setIfInBounds]
theorem swp_all {p : Int → Prop} {d : Array Int} {i j : Nat} (h : ∀ x ∈ d.toList, p x) (hi : i < d.size) (hj : j < d.size) : ∀ x ∈ (swp d i j).toList, p x := fun x hx => by
  rw [swp_list d i j hi hj] at hx
  have mi : d[i]! ∈ d.toList := by rw [getElem!_pos d i hi]; exact Array.mem_toList_iff.2 (Array.getElem_mem hi)
  have mj : d[j]! ∈ d.toList := by rw [getElem!_pos d j hj]; exact Array.mem_toList_iff.2 (Array.getElem_mem hj)
  rcases List.mem_or_eq_of_mem_set hx with hx | rfl
  · rcases List.mem_or_eq_of_mem_set hx with hx | rfl
    · exact h x hx
    · exact h _ mj
  · exact h _ mi

/-- What is asked of the comparison. -/
def LessC (lf : Nat) (lb : Array Value) (lt : Int → Int → Bool) (p : Int → Prop) (base g n c : Nat) (W0 : World) : Prop := ∀ (W : World) (dk : Array Int), Bt (fun q => q = g) W0 W → ROrd base W dk g n c → dk.size = n → (∀ x ∈ dk.toList, p x) → ∀ i j : Nat, i < n → j < n →
  Calls Tryz.prog lf (#[.int .i64 i, .int .i64 j] ++ lb) W fun e w' => e = .returned (.bool (lt dk[i]! dk[j]!)) ∧ Ext W w'
/-- What is asked of the exchange. -/
def SwapC (sf : Nat) (sb : Array Value) (base g n c : Nat) : Prop := ∀ (W : World) (dk : Array Int), ROrd base W dk g n c → dk.size = n → ∀ i j : Nat, i < n → j < n → i ≠ j →
  (callFunc sf (#[.int .i64 i, .int .i64 j] ++ sb)).run Tryz.prog W = .ok (.value (.tuple #[])) ((W.setCell ⟨g, i, none⟩ (.int .i64 dk[j]!)).setCell ⟨g, j, none⟩ (.int .i64 dk[i]!))
theorem LessC.on {lf : Nat} {lb : Array Value} {lt : Int → Int → Bool} {p : Int → Prop} {base g n c : Nat} {W0 W1 : World} (h : LessC lf lb lt p base g n c W0) (hb : Bt (fun q => q = g) W0 W1) : LessC lf lb lt p base g n c W1 :=
  fun W dk h1 h2 h3 h4 => h W dk (hb.trans h1) h2 h3 h4
theorem ROrd.swap {base : Nat} {W : World} {dk : Array Int} {g n c : Nat} (h : ROrd base W dk g n c) (hn : dk.size = n) {i j : Nat} (hi : i < n) (hj : j < n) : ROrd base ((W.setCell ⟨g, i, none⟩ (.int .i64 dk[j]!)).setCell ⟨g, j, none⟩ (.int .i64 dk[i]!)) (swp dk i j) g n c ∧
    Bt (fun q => q = g) W ((W.setCell ⟨g, i, none⟩ (.int .i64 dk[j]!)).setCell ⟨g, j, none⟩ (.int .i64 dk[i]!)) := by
  have hI := h.i64
  have mi : I64 dk[i]! := hI _ (by rw [getElem!_pos dk i (by omega)]; exact Array.mem_toList_iff.2 (Array.getElem_mem _))
  have mj : I64 dk[j]! := hI _ (by rw [getElem!_pos dk j (by omega)]; exact Array.mem_toList_iff.2 (Array.getElem_mem _))
  have h1 := ROwn.put1 RInt.good h (by simpa using hn.symm) i (.int .i64 dk[j]!) dk[j]! (by simpa using (by omega : i < dk.size)) ⟨rfl, mj⟩
  have h2 := ROwn.put1 RInt.good h1 (by simpa using hn.symm) j (.int .i64 dk[i]!) dk[i]! (by simpa using (by omega : j < dk.size)) ⟨rfl, mi⟩
  rw [← swp_list dk i j (by omega) (by omega)] at h2
  exact ⟨h2, Bt.set (Z := fun q => q = g) (p := ⟨g, j, none⟩) (Bt.set (Z := fun q => q = g) (p := ⟨g, i, none⟩) (Bt.refl _ _) (.inr rfl) _) (.inr rfl) _⟩

set_option maxHeartbeats 1000000 in
set_option maxRecDepth 100000 in
theorem insertion_c (lf : Nat) (lb : Array Value) (sf : Nat) (sb : Array Value) (lt : Int → Int → Bool) (p : Int → Prop) (base g n c : Nat) (d : Array Int) (w : World) (el : ∀ args w, (callFunc lf args).run Tryz.prog w = .ok (.enter lf args) w)
    (hless : LessC lf lb lt p base g n c w) (hswap : SwapC sf sb base g n c) (hrow : ROrd base w d g n c) (hd : d.size = n) (hp : ∀ x ∈ d.toList, p x) (hn : n ≤ 1000) (hg : g < w.heap.size) :
    Calls Tryz.prog 298 #[.agg #[.func (.func lf) #[] lb, .func (.func sf) #[] sb], .int .i64 0, .int .i64 n] w fun e w' => e = .returned (.tuple #[]) ∧ (ROrd base w' (insertionSort lt d 0 n) g n c ∧ (∀ x ∈ (insertionSort lt d 0 n).toList, p x) ∧ (insertionSort lt d 0 n).size = n) ∧ Bt (fun q => q = g) w w' := by
  have HR := Lib.hid hrow
  have HP := Lib.hid hp
  clear hrow hp
  go_enter Tryz.func298, Tryz.ntmps298
  go_wp2_with fail
  obtain ⟨W1, hW1⟩ : ∃ W1, w.alloc (.cells #[.func (.func lf) #[] lb, .func (.func sf) #[] sb] 299) = W1 := ⟨_, rfl⟩
  have hX1 : Ext w W1 := by rw [← hW1]; exact (Ext.refl w).alloc _
  have b0 : W1.cell? ⟨w.heap.size, 0, none⟩ = some (.func (.func lf) #[] lb) := by rw [← hW1]; simp
  have b1 : W1.cell? ⟨w.heap.size, 1, none⟩ = some (.func (.func sf) #[] sb) := by rw [← hW1]; simp
  have HR1 := Lib.hid (HR.out.ext RInt.good hX1)
  have hl1 := hless.on hX1.bt
  rw [hW1]
  clear hW1 hless
  have hgw : ¬ (w.heap.size = g) := by omega
  go_loopw [6] (fun vi wr => ∃ (i : Nat) (dk : Array Int), vi = .int .i64 i ∧ 1 ≤ i ∧ i ≤ n + 1 ∧ dk.size = n ∧ Hid (ROrd base wr dk g n c) ∧ Hid (∀ x ∈ dk.toList, p x) ∧ Hid (Bt (fun q => q = g) W1 wr) ∧ Hid (insOuter lt 0 n i dk = insOuter lt 0 n 1 d)) (fun vi _ => n + 1 - (intOf vi).toNat)
  case atStart => exact ⟨1, d, rfl, Nat.le_refl _, by omega, hd, HR1.out, HP.out, Bt.refl _ _, rfl⟩
  case round =>
    obtain ⟨i, dk, rfl, hi1, hin, hsk, hrk, hpk, hbk, hok⟩ := hrel
    by_cases hlt : i < n
    · go_wp2_with fail
      go_loopw [7] (fun vj wr2 => ∃ (j : Nat) (dj : Array Int), vj = .int .i64 j ∧ j ≤ i ∧ dj.size = n ∧ Hid (ROrd base wr2 dj g n c) ∧ Hid (∀ x ∈ dj.toList, p x) ∧ Hid (Bt (fun q => q = g) W1 wr2) ∧ Hid (insInner lt 0 j dj = insInner lt 0 i dk)) (fun vj _ => (intOf vj).toNat)
      case atStart => exact ⟨i, dk, rfl, Nat.le_refl _, hsk, hrk, hpk, hbk, rfl⟩
      case round =>
        obtain ⟨j, dj, rfl, hji, hsj, hrj, hpj, hbj, hij⟩ := hrel
        have c0 := hbj.out.cell b0 hgw
        have c1 := hbj.out.cell b1 hgw
        have out : (j ≤ 0 ∨ lt dj[j]! dj[j - 1]! = false) → insOuter lt 0 n (i + 1) dj = insOuter lt 0 n 1 d := fun hs => by
          rw [← hok.out, insOuter_go _ _ _ _ _ hlt, ← hij.out, insInner_stop _ _ _ _ hs]
        by_cases hja : 0 < j
        · have hl := hl1 wr dj hbj.out hrj.out hsj hpj.out j (j - 1) (by omega) (by omega)
          rw [show (((j - 1 : Nat) : Int)) = (j : Int) - 1 by omega] at hl
          cases hlv : lt dj[j]! dj[j - 1]! with
          | true =>
            rw [hlv] at hl
            have HIJ : Hid (insInner lt 0 (j - 1) (swp dj j (j - 1)) = insInner lt 0 i dk) := by show _ = _; rw [← hij.out]; exact (insInner_go lt 0 j dj hja hlv).symm
            clear out hij
            have hs0 := fun w' (hx : Ext wr w') => hswap w' dj (hrj.out.ext RInt.good hx) hsj j (j - 1) (by omega) (by omega) (by omega)
            rw [show (((j - 1 : Nat) : Int)) = (j : Int) - 1 by omega] at hs0
            have HS0 := Lib.hid hs0
            clear hs0
            go_wp2_with (go_at_fn lf; refine hl.mono ?_; rintro e w' ⟨rfl, hx⟩; have c1' := Ext.keep hx c1)
            rw [HS0.out w' hx, Oper.upon_value]
            have hro := ROrd.swap (hrj.out.ext RInt.good hx) hsj (i := j) (j := j - 1) (by omega) (by omega)
            have HRO := Lib.hid hro
            have HPO := Lib.hid (swp_all hpj.out (i := j) (j := j - 1) (by omega) (by omega))
            clear hro
            go_wp2_with fail
            go_roundw
            case rel => exact ⟨j - 1, swp dj j (j - 1), by go_num, by omega, by rw [← hsj]; simp [swp], HRO.out.1, HPO.out, (hbj.out.ext hx).trans HRO.out.2, HIJ.out⟩
            case measure => simp [intOf]; omega
          | false =>
            rw [hlv] at hl
            have HO := Lib.hid (out (.inr hlv))
            clear out hij
            go_wp2_with (go_at_fn lf; refine hl.mono ?_; rintro e w' ⟨rfl, hx⟩)
            go_roundw
            case rel => exact ⟨i + 1, dj, by go_num, by omega, by omega, hsj, hrj.out.ext RInt.good hx, hpj, hbj.out.ext hx, HO.out⟩
            case measure => simp [intOf]; omega
        · have HO := Lib.hid (out (.inl (by omega)))
          clear out hij
          go_wp2_with fail
          go_roundw
          case rel => exact ⟨i + 1, dj, by go_num, by omega, by omega, hsj, hrj, hpj, hbj, HO.out⟩
          case measure => simp [intOf]; omega
    · have HF : Hid (insertionSort lt d 0 n = dk) := by
        show _ = _
        unfold Sort.insertionSort
        rw [← hok.out, insOuter_stop _ _ _ _ _ hlt]
      clear hok
      go_wp2_with fail
      go_end0
      rw [HF.out]
      exact ⟨rfl, ⟨hrk.out, hpk.out, hsk⟩, hX1.bt.trans hbk.out⟩
end Go.Proofs.YtegenalcheooeaaGreat

/- sort.Slice at no more than twelve whole numbers: walked. -/
set_option linter.unusedSectionVars false
set_option linter.unusedSimpArgs false
set_option linter.unusedVariables false
namespace Go.Proofs.YtegenalcheooeaaGreat
open Go.RowKit
attribute [local go_sem] cell?_exto
open Go.Shelf Go.Sort Go.Lib

set_option maxHeartbeats 1000000 in
set_option maxRecDepth 100000 in
theorem pdq_c (lf : Nat) (lb : Array Value) (sf : Nat) (sb : Array Value) (lt : Int → Int → Bool) (p : Int → Prop) (base g n c : Nat) (lim : Int) (d : Array Int) (w : World) (el : ∀ args w, (callFunc lf args).run Tryz.prog w = .ok (.enter lf args) w)
    (hless : LessC lf lb lt p base g n c w) (hswap : SwapC sf sb base g n c) (hrow : ROrd base w d g n c) (hd : d.size = n) (hp : ∀ x ∈ d.toList, p x) (hn : n ≤ 12) (hg : g < w.heap.size) :
    Calls Tryz.prog 277 #[.agg #[.func (.func lf) #[] lb, .func (.func sf) #[] sb], .int .i64 0, .int .i64 n, .int .i64 lim] w fun e w' => e = .returned (.tuple #[]) ∧ (ROrd base w' (insertionSort lt d 0 n) g n c ∧ (∀ x ∈ (insertionSort lt d 0 n).toList, p x) ∧ (insertionSort lt d 0 n).size = n) ∧ Bt (fun q => q = g) w w' := by
  have hX : Ext w (w.alloc (.cells #[.func (.func lf) #[] lb, .func (.func sf) #[] sb] 299)) := (Ext.refl w).alloc _
  have hins := insertion_c lf lb sf sb lt p base g n c d _ el (hless.on hX.bt) hswap (hrow.ext RInt.good hX) hd hp (by omega) (Nat.lt_of_lt_of_le hg hX.size)
  have y1 : IntKind.i64.wrap (n : Int) = n := IntWalk.i64_in _ (by omega)
  clear hless hswap hrow hp
  go_enter Tryz.func277, Tryz.ntmps277
  go_wp2_with fail
  refine wp_loop_rounds 1 ?_
  rw [rounds_succ]
  go_wp2_with fail
  refine hins.mono ?_
  rintro e w' ⟨rfl, h1, h2⟩
  have H1 := Lib.hid h1
  have H2 := Lib.hid h2
  clear h1 h2 hins
  go_wp2_with fail
  exact bodyPost_ret (results_none rfl _ _ _) rfl ⟨rfl, H1.out, hX.bt.trans H2.out⟩

theorem info53 : ∃ i, Tryz.prog.info? 53 = some i ∧ i.desc = .slice 3 := by
  have h : (Tryz.prog.info? 53).map (fun i => i.desc) = some (.slice 3) := by kernel_rfl
  obtain ⟨i, h1, h2⟩ := Option.map_eq_some_iff.1 h
  exact ⟨i, h1, h2⟩
theorem info3s : ∃ i, Tryz.prog.info? 3 = some i ∧ i.desc = .int .i64 ∧ i.str = "int" ∧ i.size = 1 ∧ ∀ n, 2 ≤ n → swapperK n i 2 = 5 := by
  have h : (Tryz.prog.info? 3).map (fun i => (i.desc, i.str, i.size, i.hasPointers, i.bytes)) = some (.int .i64, "int", 1, false, 8) := by kernel_rfl
  obtain ⟨i, h1, h2⟩ := Option.map_eq_some_iff.1 h
  simp only [Prod.mk.injEq] at h2
  refine ⟨i, h1, h2.1, h2.2.1, h2.2.2.1, fun n hn => ?_⟩
  have h0 : (n == 0) = false := by simp; omega
  have h1 : (n == 1) = false := by simp; omega
  simp [swapperK, h0, h1, h2.2.2.2.1, h2.2.2.2.2]

theorem rlh : typeHandle Tryz.prog 3 = typeHandle Tryz.prog 3 := rfl
set_option maxHeartbeats 1000000 in
set_option maxRecDepth 100000 in
theorem slice_c (lf : Nat) (lb : Array Value) (lt : Int → Int → Bool) (p : Int → Prop) (base g n c : Nat) (d : Array Int) (w : World) (el : ∀ args w, (callFunc lf args).run Tryz.prog w = .ok (.enter lf args) w)
    (hless : LessC lf lb lt p base g n c w) (hrow : ROrd base w d g n c) (hd : d.size = n) (hp : ∀ x ∈ d.toList, p x) (hn : n ≤ 12) (hg : g < w.heap.size) :
    Calls Tryz.prog 246 #[.iface 53 (.slice (some ⟨g, 0, none⟩) n c), .func (.func lf) #[] lb] w fun e w' => e = .returned (.tuple #[]) ∧ (ROrd base w' (insertionSort lt d 0 n) g n c ∧ (∀ x ∈ (insertionSort lt d 0 n).toList, p x) ∧ (insertionSort lt d 0 n).size = n) ∧ Bt (fun q => q = g) w w' := by
  obtain ⟨i, hi, hdesc⟩ := info53
  obtain ⟨ie, hie, hde, hstr, hsz, hsk⟩ := info3s
  have hke : ∀ w, (Extern.Rtype.kind 3).run Tryz.prog w = .ok 2 w := fun w => by
    simp [Extern.Rtype.kind, Extern.Rtype.under, rl_info 3 ie hie, hde, hstr, Result.andThen]
  have hagg : ∀ w, (isAgg 3).run Tryz.prog w = .ok false w := fun w => by
    simp [isAgg, underlying, Tryz.underlying3, Result.andThen]
  have hfk : ∃ f, Tryz.prog.funcs.findIdx? (·.name == "internal/reflectlite" ++ ".Swapper$" ++ toString (swapperK n ie 2)) = some f ∧ SwapC f (if swapperK n ie 2 ≤ 2 then #[] else #[.slice (some ⟨g, 0, none⟩) n c, typeHandle Tryz.prog 3]) base g n c := by
    by_cases h2 : 2 ≤ n
    · rw [hsk n h2]
      refine ⟨293, by kernel_rfl, ?_⟩
      intro W dk hr hk i' j' hi' hj' hij
      obtain ⟨u, hu, ⟨e1, _⟩, fu⟩ := hr.get1 i' (by simpa using (by omega : i' < dk.size))
      obtain ⟨u', hu', ⟨e2, _⟩, fu'⟩ := hr.get1 j' (by simpa using (by omega : j' < dk.size))
      injection e1 with e1
      injection e2 with e2
      subst e1 e2
      rw [run_callFunc_extern Tryz.func293 (by kernel_rfl) (by kernel_rfl) (by kernel_rfl) (e := Extern.ReflectliteSwapper.swap true) (by kernel_rfl)]
      have hsw := run_swap_one (P := Tryz.prog) true 3 ie hie hsz hagg g 0 n c i' j' hi' hj' _ _ rfl rfl W (by rw [Nat.zero_add]; exact hu) (by rw [Nat.zero_add]; exact hu') (by rw [Nat.zero_add]; exact fu) (by rw [Nat.zero_add]; exact fu')
      have hi2 : dk.toList[i']'(by simpa using (by omega : i' < dk.size)) = dk[i']! := by rw [getElem!_pos dk i' (by omega)]; simp
      have hj2 : dk.toList[j']'(by simpa using (by omega : j' < dk.size)) = dk[j']! := by rw [getElem!_pos dk j' (by omega)]; simp
      rw [hi2, hj2, Nat.zero_add, Nat.zero_add] at hsw
      simp only [show ¬ (5 ≤ 2) by omega, if_false]
      show Result.andThen (Sem.run Tryz.prog (Extern.ReflectliteSwapper.swap true #[.int .i64 i', .int .i64 j', .slice (some ⟨g, 0, none⟩) n c, typeHandle Tryz.prog 3]) W) _ = _
      rw [hsw]
      rfl
    · have : n = 0 ∨ n = 1 := by omega
      rcases this with rfl | rfl
      · exact ⟨289, by kernel_rfl, fun W dk _ _ i j hi => absurd hi (by omega)⟩
      · exact ⟨290, by kernel_rfl, fun W dk _ _ i j hi hj hij => absurd hij (by omega)⟩
  obtain ⟨f, hf, hsw⟩ := hfk
  have hv := run_valueOf_slice (P := Tryz.prog) 53 3 i hi hdesc (some ⟨g, 0, none⟩) n c w
  have hs := fun w => run_swapper_slice (P := Tryz.prog) 53 3 i ie hi hdesc hie 2 hke (some ⟨g, 0, none⟩) n c f hf w
  have hl := fun a w ha => run_valueLen_slice (P := Tryz.prog) 53 3 i hi hdesc (by kernel_rfl) a (some ⟨g, 0, none⟩) n c w ha
  have hb := fun w => Any.bits_Len Tryz.laysBits (n : Int) w (by omega) (by omega)
  change ∀ w, Calls Tryz.prog 118 _ w _ at hb
  obtain ⟨B, hB⟩ : ∃ B : Array Value, (if swapperK n ie 2 ≤ 2 then #[] else #[.slice (some ⟨g, 0, none⟩) n c, typeHandle Tryz.prog 3]) = B := ⟨_, rfl⟩
  rw [hB] at hsw hs
  clear hB
  have hgl : Tryz.prog.globals.size = 0 := by kernel_rfl
  simp only [typeHandle, hgl] at hv hl
  have wr : IntKind.u64.wrap (n : Int) = n := by simp [IntKind.wrap, IntKind.bits, IntKind.signed]; omega
  have hX : Ext w ((w.alloc (.cells #[.slice (some ⟨g, 0, none⟩) n c] 53)).alloc (.cells #[.pointer (some ⟨0, 53, none⟩), .pointer (some ⟨w.heap.size, 0, none⟩), .int .u64 151] 292)) := ((Ext.refl w).alloc _).alloc _
  have hpd := pdq_c lf lb f B lt p base g n c (Lib.bitLen n) d _ el (hless.on hX.bt) hsw (hrow.ext RInt.good hX) hd hp hn (Nat.lt_of_lt_of_le hg hX.size)
  have HX := Lib.hid hX
  clear hless hrow hp hX
  go_enter Tryz.func246, Tryz.ntmps246
  go_wp2_with fail
  rw [run_callFunc_extern Tryz.func274 (by kernel_rfl) (by kernel_rfl) (by kernel_rfl) (e := fun args => Extern.ReflectliteValue.unpack (args.getD 0 (.tuple #[]))) (by kernel_rfl),
    show Sem.run Tryz.prog ((fun args : Array Value => Extern.ReflectliteValue.unpack (args.getD 0 (.tuple #[]))) #[.iface 53 (.slice (some ⟨g, 0, none⟩) n c)]) w = _ from hv]
  simp only [Result.andThen]
  rw [Oper.upon_value]
  go_wp2_with fail
  rw [run_callFunc_extern Tryz.func275 (by kernel_rfl) (by kernel_rfl) (by kernel_rfl) (e := Extern.ReflectliteSwapper.swapper "internal/reflectlite" (Extern.ReflectliteValue.valueError "Swapper")) (by kernel_rfl), hs]
  simp only [Result.andThen]
  rw [Oper.upon_value]
  go_wp2_with fail
  rw [run_callFunc_extern Tryz.func276 (by kernel_rfl) (by kernel_rfl) (by kernel_rfl) (e := Extern.ReflectliteValue.method (Extern.ReflectliteValue.valueError "reflectlite.Value.Len" 0) Extern.ReflectliteValue.len) (by kernel_rfl),
    hl _ _ (by simp)]
  simp only [Result.andThen]
  rw [Oper.upon_value]
  go_wp2_with fail
  refine (hb _).mono ?_
  rintro e w' ⟨rfl, rfl⟩
  go_wp2_with fail
  refine hpd.mono ?_
  rintro e w' ⟨rfl, h1, h2⟩
  have H1 := Lib.hid h1
  have H2 := Lib.hid h2
  clear h1 h2 hpd
  go_wp2_with fail
  go_end0
  exact ⟨rfl, H1.out, HX.out.bt.trans H2.out⟩
end Go.Proofs.YtegenalcheooeaaGreat

/- The comparison in lts.arcs.used: walked. -/
set_option linter.unusedSectionVars false
set_option linter.unusedSimpArgs false
set_option linter.unusedVariables false
namespace Go.Proofs.YtegenalcheooeaaGreat
open Go.RowKit
attribute [local go_sem] cell?_exto
open Go.Shelf

def lbAt (ls : List Lb) (x : Int) : Lb := (ls[x.toNat]?).getD ⟨0, []⟩
theorem lbAt_nat (ls : List Lb) (i : Nat) (h : i < ls.length) : lbAt ls (i : Int) = ls[i] := by simp [lbAt, h]
def ltIx (ls : List Lb) (x y : Int) : Bool := decide (cmpLb (lbAt ls x) (lbAt ls y) < 0)

set_option maxHeartbeats 1000000 in
set_option maxRecDepth 100000 in
theorem lessIx_c (S : Nat → Prop) (ls : List Lb) (A : Option Addr) (cl Bp Bo B g n c i j ix jx : Nat) (W : World) (hi : i < n) (hj : j < n) (hix : ix < ls.length) (hjx : jx < ls.length) (hn : n ≤ 1000000)
    (c0 : W.cell? ⟨Bp, 0, none⟩ = some (.pointer (some ⟨B, 0, none⟩))) (c1 : W.cell? ⟨Bo, 0, none⟩ = some (.slice (some ⟨g, 0, none⟩) n c)) (c2 : W.cell? ⟨B, 1, none⟩ = some (.slice A ls.length cl))
    (ci : W.cell? ⟨g, i, none⟩ = some (.int .i64 ix)) (cj : W.cell? ⟨g, j, none⟩ = some (.int .i64 jx)) (hls : RLbs S W ls [.slice A ls.length cl]) :
    Calls Tryz.prog 247 #[.int .i64 i, .int .i64 j, .pointer (some ⟨Bp, 0, none⟩), .pointer (some ⟨Bo, 0, none⟩)] W fun e w' => e = .returned (.bool (decide (cmpLb ls[ix] ls[jx] < 0))) ∧ Ext W w' := by
  obtain ⟨A', c', e, hlc, hc0⟩ := hls.val
  injection e with e1 e2 e3
  obtain ⟨b, off, cs, rfl, hb, hS, hl, hr, hcell⟩ := hls.get ix hix
  obtain ⟨_, v1, rfl, hv1⟩ := id hr
  obtain ⟨b', off', cs', he, hb', hS', hl', hr', hcell'⟩ := hls.get jx hjx
  injection he with he
  injection he with he1 he2
  subst he1 he2
  obtain ⟨_, v2, rfl, hv2⟩ := id hr'
  have g0 := hcell.get 0 _
  have g1 := hcell.get 1 _
  have g0' := hcell'.get 0 _
  have g1' := hcell'.get 1 _
  simp only [Nat.add_zero] at g0 g0'
  have hcmp := fun W' (hW : Ext W W') => CompareLabels_c S _ _ _ _ W' (RLb.good.bel hr hW) (RLb.good.bel hr' hW)
  have hL : (ls.length : Int) ≤ 9223372036854775807 := by omega
  obtain ⟨x, hx⟩ : ∃ x, ls[ix] = x := ⟨_, rfl⟩
  obtain ⟨y, hy⟩ : ∃ y, ls[jx] = y := ⟨_, rfl⟩
  rw [hx, hy] at hcmp ⊢
  rw [hx] at g0
  rw [hy] at g0'
  clear hcell hcell' hl hl' hr hr' hv1 hv2 hS hS' hls hx hy e1 e2 e3
  go_enter Tryz.func247, Tryz.ntmps247
  go_wp2_with fail
  (refine wp_region_ext (by kernel_rfl) (by kernel_rfl) ?_; (repeat (first | go_big_quiet_step ((go_at_call 57; exact quiet_extD (hcmp _ (exto_ext _ _)))) | quiet_step ((go_at_call 57; exact quiet_extD (hcmp _ (exto_ext _ _)))))); refine wpQuiet_nil ?_)
  intro w1 hx1
  go_wp2_with fail
  go_ret
  exact ⟨rfl, (by repeat (first | exact Ext.refl _ | apply Ext.alloc | apply Below.drew | apply Ext.drewN | refine Ext.trans' ?_ (by assumption) | refine Ext.trans' ?_ (ExtD.ext (by assumption))))⟩
end Go.Proofs.YtegenalcheooeaaGreat

