/- Of the proof of a law of the suites: LSlice2, LKeyW, Calm. -/
import Derived.Test.YtegenalcheooeaaGreatM02
import Derived.Test.YtegenalcheooeaaGreatM05
import Derived.Test.YtegenalcheooeaaGreatM07
import Derived.Test.YtegenalcheooeaaGreatLaid
import Derived.Lib.ReflectliteSlice
import Derived.Shelf.Lay
import Derived.Shelf.Small.Bits
import Derived.Ground.Names2Prog
/- sort.Slice at no more than twelve whole numbers: walked. -/
set_option linter.unusedSectionVars false
set_option linter.unusedSimpArgs false
set_option linter.unusedVariables false
namespace Go.Proofs.YtegenalcheooeaaGreat
open Go.RowKit
attribute [local go_sem] cell?_exto
open Go.Shelf Go.Sort Go.Lib

set_option maxHeartbeats 1000000 in
set_option maxRecDepth 100000 in
theorem pdq_c (lf : Nat) (lb : Array Value) (sf : Nat) (sb : Array Value) (lt : Int → Int → Bool) (p : Int → Prop) (base g n c : Nat) (lim : Int) (d : Array Int) (w : World) (el : ∀ args w, (callFunc lf args).run Tryz.prog w = .ok (.enter lf args) w)
    (hless : LessC lf lb lt p base g n c w) (hswap : SwapC sf sb base g n c) (hrow : ROrd base w d g n c) (hd : d.size = n) (hp : ∀ x ∈ d.toList, p x) (hn : n ≤ 12) (hg : g < w.heap.size) :
    Calls Tryz.prog 277 #[.agg #[.func (.func lf) #[] lb, .func (.func sf) #[] sb], .int .i64 0, .int .i64 n, .int .i64 lim] w fun e w' => e = .returned (.tuple #[]) ∧ (ROrd base w' (insertionSort lt d 0 n) g n c ∧ (∀ x ∈ (insertionSort lt d 0 n).toList, p x) ∧ (insertionSort lt d 0 n).size = n) ∧ Bt (fun q => q = g) w w' := by
  have hX : Ext w (w.alloc (.cells #[.func (.func lf) #[] lb, .func (.func sf) #[] sb] 299)) := (Ext.refl w).alloc _
  have hins := insertion_c lf lb sf sb lt p base g n c d _ el (hless.on hX.bt) hswap (hrow.ext RInt.good hX) hd hp (by omega) (Nat.lt_of_lt_of_le hg hX.size)
  have y1 : IntKind.i64.wrap (n : Int) = n := IntWalk.i64_in _ (by omega)
  clear hless hswap hrow hp
  go_enter Tryz.func277, Tryz.ntmps277
  go_wp2_with fail
  refine wp_loop_rounds 1 ?_
  rw [rounds_succ]
  go_wp2_with fail
  refine hins.mono ?_
  rintro e w' ⟨rfl, h1, h2⟩
  have H1 := Lib.hid h1
  have H2 := Lib.hid h2
  clear h1 h2 hins
  go_wp2_with fail
  exact bodyPost_ret (results_none rfl _ _ _) rfl ⟨rfl, H1.out, hX.bt.trans H2.out⟩

theorem info53 : ∃ i, Tryz.prog.info? 53 = some i ∧ i.desc = .slice 3 := by
  have h : (Tryz.prog.info? 53).map (fun i => i.desc) = some (.slice 3) := by kernel_rfl
  obtain ⟨i, h1, h2⟩ := Option.map_eq_some_iff.1 h
  exact ⟨i, h1, h2⟩
theorem info3s : ∃ i, Tryz.prog.info? 3 = some i ∧ i.desc = .int .i64 ∧ i.str = "int" ∧ i.size = 1 ∧ ∀ n, 2 ≤ n → swapperK n i 2 = 5 := by
  have h : (Tryz.prog.info? 3).map (fun i => (i.desc, i.str, i.size, i.hasPointers, i.bytes)) = some (.int .i64, "int", 1, false, 8) := by kernel_rfl
  obtain ⟨i, h1, h2⟩ := Option.map_eq_some_iff.1 h
  simp only [Prod.mk.injEq] at h2
  refine ⟨i, h1, h2.1, h2.2.1, h2.2.2.1, fun n hn => ?_⟩
  have h0 : (n == 0) = false := by simp; omega
  have h1 : (n == 1) = false := by simp; omega
  simp [swapperK, h0, h1, h2.2.2.2.1, h2.2.2.2.2]

theorem rlh : typeHandle Tryz.prog 3 = typeHandle Tryz.prog 3 := rfl
set_option maxHeartbeats 1000000 in
set_option maxRecDepth 100000 in
theorem slice_c (lf : Nat) (lb : Array Value) (lt : Int → Int → Bool) (p : Int → Prop) (base g n c : Nat) (d : Array Int) (w : World) (el : ∀ args w, (callFunc lf args).run Tryz.prog w = .ok (.enter lf args) w)
    (hless : LessC lf lb lt p base g n c w) (hrow : ROrd base w d g n c) (hd : d.size = n) (hp : ∀ x ∈ d.toList, p x) (hn : n ≤ 12) (hg : g < w.heap.size) :
    Calls Tryz.prog 246 #[.iface 53 (.slice (some ⟨g, 0, none⟩) n c), .func (.func lf) #[] lb] w fun e w' => e = .returned (.tuple #[]) ∧ (ROrd base w' (insertionSort lt d 0 n) g n c ∧ (∀ x ∈ (insertionSort lt d 0 n).toList, p x) ∧ (insertionSort lt d 0 n).size = n) ∧ Bt (fun q => q = g) w w' := by
  obtain ⟨i, hi, hdesc⟩ := info53
  obtain ⟨ie, hie, hde, hstr, hsz, hsk⟩ := info3s
  have hke : ∀ w, (Extern.Rtype.kind 3).run Tryz.prog w = .ok 2 w := fun w => by
    simp [Extern.Rtype.kind, Extern.Rtype.under, rl_info 3 ie hie, hde, hstr, Result.andThen]
  have hagg : ∀ w, (isAgg 3).run Tryz.prog w = .ok false w := fun w => by
    simp [isAgg, underlying, Tryz.underlying3, Result.andThen]
  have hfk : ∃ f, Tryz.prog.funcs.findIdx? (·.name == "internal/reflectlite" ++ ".Swapper$" ++ toString (swapperK n ie 2)) = some f ∧ SwapC f (if swapperK n ie 2 ≤ 2 then #[] else #[.slice (some ⟨g, 0, none⟩) n c, typeHandle Tryz.prog 3]) base g n c := by
    by_cases h2 : 2 ≤ n
    · rw [hsk n h2]
      refine ⟨293, by kernel_rfl, ?_⟩
      intro W dk hr hk i' j' hi' hj' hij
      obtain ⟨u, hu, ⟨e1, _⟩, fu⟩ := hr.get1 i' (by simpa using (by omega : i' < dk.size))
      obtain ⟨u', hu', ⟨e2, _⟩, fu'⟩ := hr.get1 j' (by simpa using (by omega : j' < dk.size))
      injection e1 with e1
      injection e2 with e2
      subst e1 e2
      rw [run_callFunc_extern Tryz.func293 (by kernel_rfl) (by kernel_rfl) (by kernel_rfl) (e := Extern.ReflectliteSwapper.swap true) (by kernel_rfl)]
      have hsw := run_swap_one (P := Tryz.prog) true 3 ie hie hsz hagg g 0 n c i' j' hi' hj' _ _ rfl rfl W (by rw [Nat.zero_add]; exact hu) (by rw [Nat.zero_add]; exact hu') (by rw [Nat.zero_add]; exact fu) (by rw [Nat.zero_add]; exact fu')
      have hi2 : dk.toList[i']'(by simpa using (by omega : i' < dk.size)) = dk[i']! := by rw [getElem!_pos dk i' (by omega)]; simp
      have hj2 : dk.toList[j']'(by simpa using (by omega : j' < dk.size)) = dk[j']! := by rw [getElem!_pos dk j' (by omega)]; simp
      rw [hi2, hj2, Nat.zero_add, Nat.zero_add] at hsw
      simp only [show ¬ (5 ≤ 2) by omega, if_false]
      show Result.andThen (Sem.run Tryz.prog (Extern.ReflectliteSwapper.swap true #[.int .i64 i', .int .i64 j', .slice (some ⟨g, 0, none⟩) n c, typeHandle Tryz.prog 3]) W) _ = _
      rw [hsw]
      rfl
    · have : n = 0 ∨ n = 1 := by omega
      rcases this with rfl | rfl
      · exact ⟨289, by kernel_rfl, fun W dk _ _ i j hi => absurd hi (by omega)⟩
      · exact ⟨290, by kernel_rfl, fun W dk _ _ i j hi hj hij => absurd hij (by omega)⟩
  obtain ⟨f, hf, hsw⟩ := hfk
  have hv := run_valueOf_slice (P := Tryz.prog) 53 3 i hi hdesc (some ⟨g, 0, none⟩) n c w
  have hs := fun w => run_swapper_slice (P := Tryz.prog) 53 3 i ie hi hdesc hie 2 hke (some ⟨g, 0, none⟩) n c f hf w
  have hl := fun a w ha => run_valueLen_slice (P := Tryz.prog) 53 3 i hi hdesc (by kernel_rfl) a (some ⟨g, 0, none⟩) n c w ha
  have hb := fun w => Any.bits_Len Tryz.laysBits (n : Int) w (by omega) (by omega)
  change ∀ w, Calls Tryz.prog 118 _ w _ at hb
  obtain ⟨B, hB⟩ : ∃ B : Array Value, (if swapperK n ie 2 ≤ 2 then #[] else #[.slice (some ⟨g, 0, none⟩) n c, typeHandle Tryz.prog 3]) = B := ⟨_, rfl⟩
  rw [hB] at hsw hs
  clear hB
  have hgl : Tryz.prog.globals.size = 0 := by kernel_rfl
  simp only [typeHandle, hgl] at hv hl
  have wr : IntKind.u64.wrap (n : Int) = n := by simp [IntKind.wrap, IntKind.bits, IntKind.signed]; omega
  have hX : Ext w ((w.alloc (.cells #[.slice (some ⟨g, 0, none⟩) n c] 53)).alloc (.cells #[.pointer (some ⟨0, 53, none⟩), .pointer (some ⟨w.heap.size, 0, none⟩), .int .u64 151] 292)) := ((Ext.refl w).alloc _).alloc _
  have hpd := pdq_c lf lb f B lt p base g n c (Lib.bitLen n) d _ el (hless.on hX.bt) hsw (hrow.ext RInt.good hX) hd hp hn (Nat.lt_of_lt_of_le hg hX.size)
  have HX := Lib.hid hX
  clear hless hrow hp hX
  go_enter Tryz.func246, Tryz.ntmps246
  go_wp2_with fail
  rw [run_callFunc_extern Tryz.func274 (by kernel_rfl) (by kernel_rfl) (by kernel_rfl) (e := fun args => Extern.ReflectliteValue.unpack (args.getD 0 (.tuple #[]))) (by kernel_rfl),
    show Sem.run Tryz.prog ((fun args : Array Value => Extern.ReflectliteValue.unpack (args.getD 0 (.tuple #[]))) #[.iface 53 (.slice (some ⟨g, 0, none⟩) n c)]) w = _ from hv]
  simp only [Result.andThen]
  rw [Oper.upon_value]
  go_wp2_with fail
  rw [run_callFunc_extern Tryz.func275 (by kernel_rfl) (by kernel_rfl) (by kernel_rfl) (e := Extern.ReflectliteSwapper.swapper "internal/reflectlite" (Extern.ReflectliteValue.valueError "Swapper")) (by kernel_rfl), hs]
  simp only [Result.andThen]
  rw [Oper.upon_value]
  go_wp2_with fail
  rw [run_callFunc_extern Tryz.func276 (by kernel_rfl) (by kernel_rfl) (by kernel_rfl) (e := Extern.ReflectliteValue.method (Extern.ReflectliteValue.valueError "reflectlite.Value.Len" 0) Extern.ReflectliteValue.len) (by kernel_rfl),
    hl _ _ (by simp)]
  simp only [Result.andThen]
  rw [Oper.upon_value]
  go_wp2_with fail
  refine (hb _).mono ?_
  rintro e w' ⟨rfl, rfl⟩
  go_wp2_with fail
  refine hpd.mono ?_
  rintro e w' ⟨rfl, h1, h2⟩
  have H1 := Lib.hid h1
  have H2 := Lib.hid h2
  clear h1 h2 hpd
  go_wp2_with fail
  go_end0
  exact ⟨rfl, H1.out, HX.out.bt.trans H2.out⟩
end Go.Proofs.YtegenalcheooeaaGreat

/- Keys of labels, in plain words: a label that is valid can be read off its key. -/
set_option linter.unusedSectionVars false
set_option linter.unusedSimpArgs false
set_option linter.unusedVariables false
namespace Go.Proofs.YtegenalcheooeaaGreat
open Go.RowKit
attribute [local go_sem] cell?_exto
open Go.Shelf

mutual
def keyTm : Tm → List UInt8
  | .mk _ n l => UInt8.ofNat n.toNat :: UInt8.ofNat l.length :: keyTms l
def keyTms : List Tm → List UInt8
  | [] => []
  | x :: xs => keyTm x ++ keyTms xs
end
def keyLb (x : Lb) : List UInt8 := UInt8.ofNat (x.g + 4).toNat :: UInt8.ofNat x.v.length :: keyTms x.v
theorem keyTm_eq (t : Tm) : keyTm t = UInt8.ofNat t.n.toNat :: UInt8.ofNat t.l.length :: keyTms t.l := by cases t; rw [keyTm]; rfl
mutual
theorem keyTm_len : ∀ t : Tm, (keyTm t).length = 2 * t.size
  | .mk _ n l => by rw [keyTm, List.length_cons, List.length_cons, keyTms_len l, Tm.size]; omega
theorem keyTms_len : ∀ l : List Tm, (keyTms l).length = 2 * Tm.sizes l
  | [] => by rw [keyTms, Tm.sizes]; rfl
  | x :: xs => by rw [keyTms, List.length_append, keyTm_len x, keyTms_len xs, Tm.sizes]; omega
end
theorem byte_of {n : Int} (h0 : 0 ≤ n) (h1 : n < 256) : ((UInt8.ofNat n.toNat).toNat : Int) = n := by
  rw [UInt8.toNat_ofNat']
  omega
theorem ofNat_inj8 {a b : Nat} (ha : a < 256) (hb : b < 256) (h : UInt8.ofNat a = UInt8.ofNat b) : a = b := by
  have := congrArg UInt8.toNat h
  rw [UInt8.toNat_ofNat', UInt8.toNat_ofNat'] at this
  omega
mutual
theorem keyTm_inj : ∀ (x y : Tm) (r s : List UInt8), allV x = true → allV y = true → keyTm x ++ r = keyTm y ++ s → x = y ∧ r = s
  | .mk k n l, .mk k' n' l', r, s, h, h', e => by
    rw [allV] at h h'
    simp only [Bool.and_eq_true, decide_eq_true_eq] at h h'
    rw [keyTm, keyTm] at e
    simp only [List.cons_append, List.cons.injEq] at e
    have e1 := ofNat_inj8 (by omega) (by omega) e.1
    have e2 := ofNat_inj8 (by omega) (by omega) e.2.1
    have e3 := keyTms_inj l l' r s h.2 h'.2 e2 e.2.2
    have e4 : n = n' := by omega
    have e5 : k = k' := by omega
    rw [e3.1, e4, e5]
    exact ⟨rfl, e3.2⟩
theorem keyTms_inj : ∀ (x y : List Tm) (r s : List UInt8), allVs x = true → allVs y = true → x.length = y.length → keyTms x ++ r = keyTms y ++ s → x = y ∧ r = s
  | [], [], r, s, _, _, _, e => ⟨rfl, by simpa [keyTms] using e⟩
  | [], _ :: _, _, _, _, _, h, _ => by simp at h
  | _ :: _, [], _, _, _, _, h, _ => by simp at h
  | x :: xs, y :: ys, r, s, h, h', hl, e => by
    rw [allVs, Bool.and_eq_true] at h h'
    rw [keyTms, keyTms, List.append_assoc, List.append_assoc] at e
    have e1 := keyTm_inj x y _ _ h.1 h'.1 e
    have e2 := keyTms_inj xs ys r s h.2 h'.2 (by simpa using hl) e1.2
    rw [e1.1, e2.1]
    exact ⟨rfl, e2.2⟩
end
theorem allVs_of : ∀ {l : List Tm}, (∀ t ∈ l, allV t = true) → allVs l = true
  | [], _ => rfl
  | x :: xs, h => by rw [allVs, h x (by simp), allVs_of fun t ht => h t (by simp [ht])]; rfl
theorem allV_sub {t : Tm} (h : allV t = true) : 0 ≤ t.n ∧ t.n < 256 ∧ t.l.length ≤ 8 ∧ ∀ x ∈ t.l, allV x = true := by
  rw [allV_eq] at h
  simp only [Bool.and_eq_true, decide_eq_true_eq, Bool.not_eq_true', List.any_eq_false] at h
  exact ⟨h.1.1.1.2, h.1.1.2, h.1.2, fun x hx => by simpa using h.2 x hx⟩
theorem okLb_v {x : Lb} (h : okLb x = true) : -3 ≤ x.g ∧ x.g < 32 ∧ x.v.length ≤ 8 ∧ ∀ t ∈ x.v, allV t = true := by
  unfold okLb at h
  simp only [Bool.not_eq_true', Bool.or_eq_false_iff, decide_eq_false_iff_not, List.any_eq_false] at h
  refine ⟨by omega, by omega, by omega, fun t ht => ?_⟩
  have := h.2 t ht
  cases ha : allV t with
  | true => rfl
  | false => exact absurd (by simp [isV, ha]) this
theorem keyLb_inj {x y : Lb} (h : okLb x = true) (h' : okLb y = true) (e : keyLb x = keyLb y) : x = y := by
  have hx := okLb_v h
  have hy := okLb_v h'
  simp only [keyLb, List.cons.injEq] at e
  have e1 := ofNat_inj8 (by omega) (by omega) e.1
  have e2 := ofNat_inj8 (by omega) (by omega) e.2.1
  have e3 := (keyTms_inj x.v y.v [] [] (allVs_of hx.2.2.2) (allVs_of hy.2.2.2) e2 (by simpa using e.2.2)).1
  obtain ⟨g, v⟩ := x
  obtain ⟨g', v'⟩ := y
  simp only at e1 e3
  rw [e3, show g = g' by simp only at hx hy; omega]
/-- A key as Go's text. -/
def keyS (x : Lb) : ByteArray := ⟨(keyLb x).toArray⟩
theorem keyS_inj {x y : Lb} (h : okLb x = true) (h' : okLb y = true) (e : keyS x = keyS y) : x = y := by
  refine keyLb_inj h h' ?_
  have := congrArg (fun b : ByteArray => b.data.toList) e
  simpa [keyS] using this
instance : DecidableEq Lb := fun a b => decidable_of_iff (cmpLb a b = 0) (ordLb.iff a b)
end Go.Proofs.YtegenalcheooeaaGreat

/- suite.calm: walked. -/
set_option linter.unusedSectionVars false
set_option linter.unusedSimpArgs false
set_option linter.unusedVariables false
namespace Go.Proofs.YtegenalcheooeaaGreat
open Go.RowKit
attribute [local go_sem] cell?_exto
open Go.Shelf
attribute [local go_sem] Oper.semAt_some

/-- What calm hands back. -/
def RowPost (base : Nat) (r : List Int) (w : World) (e : Ending) (w' : World) : Prop := ∃ v, e = .returned v ∧ ROwn RInt 1 3 base (fun _ => False) w' r v ∧ Ext w w'
theorem RowPost.at {base b' : Nat} {r : List Int} {w w' : World} {e : Ending} (h : RowPost base r w e w') (hb : b' ≤ base) : ∃ A c, e = .returned (.slice A r.length c) ∧ ROwn RInt 1 3 b' (fun _ => False) w' r (.slice A r.length c) ∧ Ext w w' := by
  obtain ⟨v, rfl, h1, h2⟩ := h
  obtain ⟨A, c, rfl, _, _⟩ := (h1.sl RInt.good (by decide)).val
  exact ⟨A, c, rfl, h1.base hb, h2⟩
theorem info3 : ∃ i3, Tryz.prog.info? 3 = some i3 ∧ i3.zero = some (.int .i64 0) ∧ i3.size = 1 ∧ i3.bytes = 8 := by
  obtain ⟨i3, hi3, hzz⟩ := Option.map_eq_some_iff.1 info3a
  simp only [Prod.mk.injEq] at hzz
  exact ⟨i3, hi3, hzz⟩
theorem calmRow_snoc (s : Sy) (pre : List (Fin s.es.length)) (x : Fin s.es.length) (l : List Int) : calmRow s (pre ++ [x]) l = calmAdd s (calmRow s pre l) s.es[x] := by simp [calmRow]
theorem gateOf_at (s : Sy) {l : Int} {i : Nat} (h : l = (i : Int)) (hi : i < s.ls.length) : gateOf s l = s.ls[i].g := by
  subst h
  simp [gateOf, hi]

set_option maxHeartbeats 1000000 in
set_option maxRecDepth 100000 in
theorem calm_c (S : Nat → Prop) (s : Sy) (hok : okSyP s) (g : Nat) (l : List Int) (v : Value) (w : World) (hS : IsSys S w g s) (hl : RSl RInt 1 S w l [v]) (hlen : l.length ≤ 200000) :
    Calls Tryz.prog 208 #[.pointer (some ⟨g, 0, none⟩), v] w (RowPost w.heap.size (calmL s l) w) := by
  have HS := Lib.hid hS
  have HL := Lib.hid hl
  have ho := hl.oneCell
  clear hS hl
  refine (callsIn_wide (n := 3)).1 ?_
  refine callsIn_of_wp_marks Tryz.func208 rfl trivial ?_ rfl
  simp only [Tryz.ntmps208, List.size_toArray, List.length_cons, List.length_nil, Nat.reduceAdd, Nat.reduceSub, Array.replicate_succ, Array.replicate_zero, List.push_toArray, List.append_toArray, List.nil_append, List.cons_append]
  obtain ⟨A0, c0, rfl, hc0, hc00⟩ := HL.out.val
  gi_wp2_with fail
  refine ⟨trivial, ?_⟩
  gi_at_call 250
  refine (callsIn_wide.2 (cloneInt S l _ _ ((RSl.good RInt.good).bel HL.out (((Ext.refl w).alloc _).alloc _)) (by omega))).mono ?_
  rintro e w1 ⟨v1, rfl, hv1, h1⟩
  obtain ⟨A1, c1, rfl, hc1, hc10⟩ := (hv1.sl RInt.good (by decide)).val
  have bS1 := ((Boxed.new w 111 (.pointer (some ⟨g, 0, none⟩))).alloc (.cells #[.slice A0 l.length c0] 53))
  have bL1 := Boxed.new (w.alloc (.cells #[.pointer (some ⟨g, 0, none⟩)] 111)) 53 (.slice A0 l.length c0)
  simp only [World.size_alloc] at bL1
  replace bS1 : Boxed w1 w.heap.size 111 _ := ((Ext.kp (S := fun _ => True) h1).block _ bS1.lt trivial).trans bS1
  replace bL1 : Boxed w1 (w.heap.size + 1) 53 _ := ((Ext.kp (S := fun _ => True) h1).block _ bL1.lt trivial).trans bL1
  have cL1 := bL1.cell
  have fL1 := bL1.frozen
  gi_wp2
  obtain ⟨W1, hW1⟩ : ∃ W1, w1.setCell ⟨w.heap.size + 1, 0, none⟩ (.slice A1 l.length c1) = W1 := ⟨_, rfl⟩
  have hX1 : Ext w W1 := by rw [← hW1]; exact (((Ext.refl w).alloc _).alloc _ |>.trans' h1).set (Nat.le_succ _) _
  have hz1 : w.heap.size + 2 ≤ w1.heap.size := by have := h1.size; simp at this; omega
  have bS2 : Boxed W1 w.heap.size 111 (.pointer (some ⟨g, 0, none⟩)) := by rw [← hW1]; exact bS1.other (by omega) _
  have bL2 : Boxed W1 (w.heap.size + 1) 53 (.slice A1 l.length c1) := by rw [← hW1]; exact bL1.set _
  have hv2 : ROwn RInt 1 3 (w.heap.size + 2) (fun _ => False) W1 l (.slice A1 l.length c1) := by
    rw [← hW1]
    simp only [World.size_alloc] at hv1
    exact hv1.int.bt RInt.good (Bt.of_grown (grownBy_setCell' w1 (w.heap.size + 1) _)) (fun b hb hz => ⟨fun h => h, fun e => by
      obtain ⟨news, h2, _⟩ := hv1
      have := (own_row_base h2 b e).1
      cases hz
      omega⟩)
  rw [hW1]
  clear hW1 bS1 bL1 cL1 fL1 hv1 h1 hz1
  have HB1 := Lib.hid bS2
  have HB2 := Lib.hid bL2
  refine wpIn_loop (fun a' wr => ∃ u5 u10 u11 u12 u13 u14 u15 u16 u17 u18 u19 u20 u21 : Value, ∃ (ds : List Deferred), (∃ (k : Nat) (lk : List Int) (vk : Value), u5 = Value.int .i64 (k : Int) ∧ k ≤ lk.length ∧ Boxed wr w.heap.size 111 (.pointer (some ⟨g, 0, none⟩)) ∧ Boxed wr (w.heap.size + 1) 53 vk ∧ ROwn RInt 1 3 (w.heap.size + 2) (fun _ => False) wr lk vk ∧
      Marks (w.heap.size + 2) ds wr ∧ Ext w wr ∧ lk.length + calmPot s lk ≤ l.length + s.es.length ∧ Hid (calmGo s (l.length + s.es.length - k) k lk = calmGo s (l.length + s.es.length) 0 l)) ∧
      a' = { tmps := #[Value.pointer (some ⟨g, 0, none⟩), Value.slice A0 l.length c0, Value.pointer (some ⟨w.heap.size, 0, none⟩), Value.pointer (some ⟨w.heap.size + 1, 0, none⟩), Value.slice none 0 0, u5, undef, undef, Value.slice A0 l.length c0, Value.slice A1 l.length c1, u10, u11, u12, u13, u14, u15, u16, u17, u18, u19, u20, u21, undef, undef, undef, undef, undef, undef, undef, undef, undef, undef, undef, undef, undef, undef, undef, undef, undef, undef, undef, undef, undef, undef, undef, undef, undef, undef, undef, undef], defers := ds })
    (fun a' _ => l.length + s.es.length - (intOf (a'.tmps.getD 5 undef)).toNat) ?_ ?_
  · refine ⟨_, _, _, _, _, _, _, _, _, _, _, _, _, [], ⟨0, l, _, rfl, Nat.zero_le _, HB1.out, HB2.out, hv2, Marks.nil _ _, hX1, by have := calmPot_le s l; omega, rfl⟩, rfl⟩
  rintro _ wr ⟨u5, u10, u11, u12, u13, u14, u15, u16, u17, u18, u19, u20, u21, ds, ⟨k, lk, vk, rfl, hk, q1, q2, hown, hM, hX, hpot, hf⟩, rfl⟩
  obtain ⟨Ak, ck, rfl, hck, hck0⟩ := (hown.sl RInt.good (by decide)).val
  have e1 := q1.cell
  have e2 := q2.cell
  by_cases hlt : k < lk.length
  · obtain ⟨b, off, cs, rfl, hb, hT, hl, hr, hcell⟩ := (hown.sl RInt.good (by decide)).get k hlt
    obtain rfl := hr.1
    have g0 := (by simpa using hcell.get 0 _ : wr.cell? ⟨b, off + k, none⟩ = some (.int .i64 lk[k]))
    have HO := Lib.hid hown
    have HM := Lib.hid hM
    have Hf := Lib.hid hf.out
    have hc175 := fun W => (callsIn_wide.1 (steps_in 3 (some ⟨g, 0, none⟩) lk[k] W))
    clear hown hM hf hcell hr hl hT
    gi_wp2_with fail
    have hcj : wr.cell? ⟨w.heap.size, 0, none⟩ = some (.pointer (some ⟨g, 0, none⟩)) ∧ wr.cell? ⟨w.heap.size + 1, 0, none⟩ = some (.slice (some ⟨b, off, none⟩) lk.length ck) ∧ wr.cell? ⟨b, off + k, none⟩ = some (.int .i64 lk[k]) := ⟨e1, e2, g0⟩
    refine wpIn_wide.2 ?_
    go_region_held3 (fun W => W.cell? ⟨w.heap.size, 0, none⟩ = some (.pointer (some ⟨g, 0, none⟩)) ∧ W.cell? ⟨w.heap.size + 1, 0, none⟩ = some (.slice (some ⟨b, off, none⟩) lk.length ck) ∧ W.cell? ⟨b, off + k, none⟩ = some (.int .i64 lk[k]))
      (first | exact (((ExtD.refl _).alloc _).alloc _).k3 (by assumption) | exact ((ExtD.refl _).alloc _).k3 (by assumption) | (refine ⟨?_, ?_, ?_⟩ <;> go_simp <;> done))
      (first | (go_at_call 175; refine (hc175 _).mono ?_; rintro e w' ⟨rfl, rfl⟩))
    gi_wp2_with fail
    obtain ⟨W0, hW0⟩ : ∃ W0, ((wr.alloc (.cells #[.pointer (some ⟨g, 0, none⟩)] 111)).alloc (.cells #[.int .i64 lk[k]] 3)).drew = W0 := ⟨_, rfl⟩
    have hsz0 : W0.heap.size = wr.heap.size + 2 := by rw [← hW0]; show (World.heap _).size = _; simp
    have hX0 : Ext wr W0 := by rw [← hW0]; exact (((Ext.refl wr).alloc _).alloc _).drew
    have bs0 : Boxed W0 wr.heap.size 111 (.pointer (some ⟨g, 0, none⟩)) := by rw [← hW0]; exact ((Boxed.new wr 111 _).alloc _)
    have bt0 : Boxed W0 (wr.heap.size + 1) 3 (.int .i64 lk[k]) := by rw [← hW0]; have := Boxed.new (wr.alloc (.cells #[.pointer (some ⟨g, 0, none⟩)] 111)) 3 (.int .i64 lk[k]); rwa [World.size_alloc] at this
    rw [hW0]
    clear hW0
    -- what a round of the iterator keeps
    obtain ⟨Z, hZ⟩ : ∃ Z : Nat → Prop, Z = fun q => (S q ∧ q < w.heap.size) ∨ q = wr.heap.size := ⟨_, rfl⟩
    have hS0 : IsSys Z W0 g s := (HS.out.mono (S' := Z) fun q h1 h2 => by rw [hZ]; exact .inl ⟨h2, h1⟩).bel (hX.trans' hX0)
    have hZ' : ∀ q, Z q → q < W0.heap.size := fun q hq => by
      rw [hZ] at hq
      have := hX.size
      rcases hq with ⟨_, h⟩ | h <;> omega
    obtain ⟨vk0, hvk0⟩ : ∃ vk0, Value.slice (some ⟨b, off, none⟩) lk.length ck = vk0 := ⟨_, rfl⟩
    have HO' := HO.out
    rw [hvk0] at HO' q2
    have hr0 : ROwn RInt 1 3 (w.heap.size + 2) (fun _ => False) W0 lk vk0 := HO'.ext RInt.good hX0
    have q20 : Boxed W0 (w.heap.size + 1) 53 vk0 := (Ext.kp (S := fun _ => True) hX0).block _ q2.lt trivial |>.trans q2
    have q10 : Boxed W0 w.heap.size 111 (.pointer (some ⟨g, 0, none⟩)) := (Ext.kp (S := fun _ => True) hX0).block _ q1.lt trivial |>.trans q1
    have hown0 : ∀ q, vk0.ownBlock = some q → w.heap.size + 2 ≤ q ∧ q < wr.heap.size := fun q hq => by obtain ⟨news, h1, _⟩ := HO'; exact own_row_base h1 q hq
    have hZn : ∀ q, Z q → ¬ (q = w.heap.size + 1 ∨ vk0.ownBlock = some q) := fun q hq e => by
      rw [hZ] at hq
      have := q1.lt
      have := q2.lt
      rcases e with rfl | e
      · rcases hq with ⟨_, h⟩ | h <;> omega
      · have := hown0 q e
        rcases hq with ⟨_, h⟩ | h <;> omega
    have hIown := rngI_own (base := w.heap.size + 2) (vk0 := vk0) (row := fun pre => calmRow s pre lk) q20.lt
    have HV0 := Lib.hid hvk0
    clear hvk0 HO'
    have hlt1 := q1.lt
    have hlt2 := q2.lt
    have hwr := hX.size
    refine wpIn_rangeFunc_ownH rfl (by omega) (gf := 234) (lb := #[.pointer (some ⟨wr.heap.size, 0, none⟩), .pointer (some ⟨wr.heap.size + 1, 0, none⟩)]) rfl trivial (enters_of Tryz.func234 (by kernel_rfl) rfl)
      (steps_stops (3 - 1) (by omega) Z s g wr.heap.size (wr.heap.size + 1) lk[k] (by rw [hZ]; exact .inr rfl) W0 hS0 bs0.cell bt0.cell) kp_t (kp_b hZ') (Below.refl _ _) (fun _ => rfl)
      (RngI (w.heap.size + 1) (w.heap.size + 2) vk0 W0 (fun pre => calmRow s pre lk)) (fun _ _ _ => False) hIown (fun _ _ _ _ _ hs _ _ => hs)
      (RngI.start q20 hr0)
      (fun x a' W => ∃ Bx, W0.heap.size ≤ Bx ∧ W.heap[Bx]? = some (.cells #[.int .i64 s.es[x].f, .int .i64 s.es[x].l, .int .i64 s.es[x].t] 88) ∧ a' = { tmps := #[Value.pointer (some ⟨g, 0, none⟩), Value.slice A0 l.length c0, Value.pointer (some ⟨w.heap.size, 0, none⟩), Value.pointer (some ⟨w.heap.size + 1, 0, none⟩), Value.slice none 0 0, Value.int .i64 (k : Int), undef, Value.pointer (some ⟨Bx, 0, none⟩), Value.slice A0 l.length c0, Value.slice A1 l.length c1, Value.int .i64 (k : Int), Value.slice (some ⟨b, off, none⟩) lk.length ck, Value.int .i64 (lk.length : Int), Value.bool true, u14, u15, Value.pointer (some ⟨g, 0, none⟩), Value.slice (some ⟨b, off, none⟩) lk.length ck, Value.int .i64 (k : Int), Value.pointer (some ⟨b, off + k, none⟩), Value.int .i64 lk[k], Value.func (Fn.func 234) #[] #[Value.pointer (some ⟨wr.heap.size, 0, none⟩), Value.pointer (some ⟨wr.heap.size + 1, 0, none⟩)], Value.int .i64 (x.1 : Int), Value.agg #[.int .i64 s.es[x].f, .int .i64 s.es[x].l, .int .i64 s.es[x].t], undef, undef, undef, undef, undef, undef, undef, undef, undef, undef, undef, undef, undef, undef, undef, undef, undef, undef, undef, undef, undef, undef, undef, undef, undef, undef], defers := [] })
      (fun x a' _ X Y row hs hg hr => by
        obtain ⟨Bx, h1, h2, h3⟩ := hs
        exact ⟨Bx, h1, (hg.block Bx (Array.getElem?_eq_some_iff.1 h2).1 fun e => by
          obtain ⟨_, o', h4, h5⟩ := hr Bx e.symm
          rw [h2] at h4
          cases h4
          cases h5).trans h2, h3⟩)
      ?assign ?body ?done ?stop
    case assign =>
      rintro l2 pre x W K hI hK
      unfold edArgs
      gi_wp2
      refine hK _ _ ((KeepsOthers.alloc _ _).from _) ⟨by simp, fun q h1 _ => Below.heap_alloc _ _ _ h1⟩ (hIown.alloc _ hI) ⟨W.heap.size, hI.bt.size, World.alloc_heap_new W _, rfl⟩
    case body =>
      rintro l2 pre x a' W hl2 _ hI ⟨Bx, hBx, hbox, rfl⟩ hlen2
      obtain ⟨xi, hxl⟩ := x
      have hed := (hok.2.2.2.2.2 xi hxl).1
      have hlab : 0 ≤ s.es[xi].l ∧ s.es[xi].l < s.ls.length := by
        simp only [okEd, isB, Bool.and_eq_true, decide_eq_true_eq] at hed
        omega
      have hto : I64 s.es[xi].t := by
        simp only [okEd, isB, Bool.and_eq_true, decide_eq_true_eq] at hed
        have := hok.2.1
        exact ⟨by omega, by omega⟩
      obtain ⟨li, hli⟩ : ∃ li : Nat, s.es[xi].l = (li : Int) := ⟨s.es[xi].l.toNat, by omega⟩
      have hli2 : li < s.ls.length := by omega
      obtain ⟨vk2, q3, hown3, hat3⟩ := hI.row
      have hlen3 : (calmRow s pre lk).length ≤ 500000 := by have := (calmRow_pot s pre lk).1; have := hok.2.2.2.1; omega
      have hbt := hI.bt
      obtain ⟨A3, c3, rfl, hc3, hc30⟩ := (hown3.sl RInt.good (by decide)).val
      obtain ⟨v', u', m, f, h1, h2, h3, h4, h5, h6, h7, h8⟩ := (hS0.move (hbt.kp fun q _ hq => hZn q hq)).ex
      obtain ⟨bl, ol, cl, csl, rfl, hbl, hSl, hll, hrl, hcl⟩ := h2.at li hli2
      obtain ⟨il, vl, rfl, hvl⟩ := id hrl
      have g1 : W.cell? ⟨g, 1, none⟩ = some (.slice (some ⟨bl, ol, none⟩) s.ls.length cl) := cell_of_row W _ 1 _ _ _ h1
      have gl : W.cell? ⟨bl, ol + li * 2, none⟩ = some (.int .i64 s.ls[li].g) := by simpa using hcl.get 0 _
      have x1 : W.cell? ⟨Bx, 1, none⟩ = some (.int .i64 (li : Int)) := by rw [← hli]; exact cell_of_row W _ 1 _ _ _ hbox
      have x2 : W.cell? ⟨Bx, 2, none⟩ = some (.int .i64 s.es[xi].t) := cell_of_row W _ 2 _ _ _ hbox
      have y1 : W.cell? ⟨w.heap.size, 0, none⟩ = some (.pointer (some ⟨g, 0, none⟩)) := hbt.cell q10.cell (by
        rintro (e | e)
        · exact absurd e (by simp)
        · have := (hown0 _ e).1; simp at this; omega)
      have y2 := q3.cell
      have HI := Lib.hid hI
      have HR3 := Lib.hid hown3
      have HQ3 := Lib.hid q3
      have HA3 := Lib.hid hat3
      have hsnoc := Lib.hid (calmRow_snoc s pre ⟨xi, hxl⟩ lk)
      have hgate := Lib.hid (gateOf_at s hli hli2)
      have hcon0 := fun x => containsInt _ (calmRow s pre lk) s.es[xi].t _ (exto W x) ((RSl.good RInt.good).bel (hown3.sl RInt.good (by decide)) (exto_ext W x))
      clear hI hown3 q3 h2 h3 h6 h7 h8 hrl hcl hvl hed h1 hbt hat3
      by_cases hgt : s.ls[li].g = -1
      · have hb1 : (s.ls[li].g == -1) = true := beq_iff_eq.2 hgt
        by_cases hmem : s.es[xi].t ∈ calmRow s pre lk
        · have hcon : ∀ x, Calls Tryz.prog 32 #[.slice A3 (calmRow s pre lk).length c3, .int .i64 s.es[xi].t] (exto W x) fun e w' => e = .returned (.bool true) ∧ w' = exto W x := fun x => by have := hcon0 x; rwa [decide_eq_true hmem] at this
          have hsame : Hid (calmRow s (pre ++ [⟨xi, hxl⟩]) lk = calmRow s pre lk) := by
            show _ = _
            rw [hsnoc.out, calmAdd, if_neg]
            rintro ⟨_, h⟩
            exact h hmem
          clear hcon0 hmem hgt hbox
          gi_wp2_with fail
          (refine wpIn_region_ext (by kernel_rfl) (by kernel_rfl) (by kernel_rfl) ?_; (repeat (first | go_big_quiet_step ((go_at_call 32; exact quiet_same (hcon _))) | quiet_step ((go_at_call 32; exact quiet_same (hcon _))))); refine wpQuiet_nil ?_)
          intro w4 hx4
          gi_wp2
          exact ⟨keepsFrom_ext hx4 _, Ext.kp hx4, HI.out.same hx4 hsame.out⟩
        · have hcon : ∀ x, Calls Tryz.prog 32 #[.slice A3 (calmRow s pre lk).length c3, .int .i64 s.es[xi].t] (exto W x) fun e w' => e = .returned (.bool false) ∧ w' = exto W x := fun x => by have := hcon0 x; rwa [decide_eq_false hmem] at this
          have hadd : Hid (calmRow s (pre ++ [⟨xi, hxl⟩]) lk = calmRow s pre lk ++ [s.es[xi].t]) := by
            show _ = _
            rw [hsnoc.out, calmAdd, if_pos ⟨hgate.out.trans hgt, hmem⟩]
            rfl
          clear hcon0 hmem hgt hbox
          gi_wp2_with fail
          (refine wpIn_region_ext (by kernel_rfl) (by kernel_rfl) (by kernel_rfl) ?_; (repeat (first | go_big_quiet_step ((go_at_call 32; exact quiet_same (hcon _))) | quiet_step ((go_at_call 32; exact quiet_same (hcon _))))); refine wpQuiet_nil ?_)
          intro w4 hx4
          obtain ⟨i3, hi3, hz0, hz1, hz2⟩ := info3
          have q4 : Boxed w4 (w.heap.size + 1) 53 _ := ((Ext.kp (S := fun _ => True) hx4).block _ HQ3.out.lt trivial).trans HQ3.out
          have r4 := HR3.out.ext RInt.good hx4
          have HR4 := Lib.hid r4
          obtain ⟨news, hrow4, hF4⟩ := r4
          obtain ⟨rfl, hi4⟩ := hF4.ints
          have y4 := q4.cell
          have x4 := Ext.keep hx4 x2
          have hsz4 := hx4.size
          have hszW := HI.out.bt.size
          have HQ4 := Lib.hid q4
          clear hF4 q4 y1 y2 x1 x2 g1 gl hcon
          gi_wp2_with (gi_at_builtin; refine wpListIn_append_at _ rfl _ _ 53 rfl (w.heap.size + 2) 3 i3 (.int .i64 0) 1 8 Tryz.underlying53 hi3 hz0 hz1 hz2 rfl (by decide) _ _ _ rfl (hrow4.alloc _) ⟨w4.heap.size, 0, none⟩ 1 1 [.int .i64 s.es[xi].t] rfl rfl (cell_one_new _ _ _) (by simp [Value.oneCell']) (by unfold maxLen; omega) (by omega) (by simp; omega) ?_; intro v5 w5 hown5 hgrow5 hat5; obtain ⟨g5, c5, rfl⟩ := ownsRow_succ hown5; have p5 := (own_push hi4 hto HQ4.out hrow4 hown5 hgrow5).1; have p5c := p5.cell; have p5f := p5.frozen)
          rw [World.size_alloc] at hat5
          have hI4 : RngI (w.heap.size + 1) (w.heap.size + 2) vk0 W0 (fun pre => calmRow s pre lk) pre w4 := HI.out.move hx4
          obtain ⟨hk5, hp5⟩ := push_keeps HQ4.out HR4.out hto hown5 hgrow5 W0.heap.size (Z := Z) (fun q _ hq e => by
            rcases e with e | e
            · exact hZn q hq (.inl e)
            · rcases HA3.out with h0 | h0
              · exact hZn q hq (.inr (h0 ▸ e))
              · have := h0 q e; have := hZ' q hq; omega)
          exact ⟨(keepsFrom_ext hx4 _).trans hk5, (Ext.kp hx4).trans hp5, hI4.push HQ4.out HR4.out HA3.out hto hown5 hgrow5 hat5 hadd.out⟩
      · have hb1 : (s.ls[li].g == -1) = false := beq_eq_false_iff_ne.2 hgt
        have hsame : Hid (calmRow s (pre ++ [⟨xi, hxl⟩]) lk = calmRow s pre lk) := by
          show _ = _
          rw [hsnoc.out, calmAdd, if_neg]
          rintro ⟨h, _⟩
          exact hgt (hgate.out.symm.trans h)
        clear hcon0 hgt hbox
        gi_wp2_with fail
        (refine wpIn_region_ext (by kernel_rfl) (by kernel_rfl) (by kernel_rfl) ?_; (repeat (first | go_big_quiet_step ((fail)) | quiet_step ((fail)))); refine wpQuiet_nil ?_)
        intro w4 hx4
        gi_wp2
        exact ⟨keepsFrom_ext hx4 _, Ext.kp hx4, HI.out.same hx4 hsame.out⟩
    case done =>
      rintro D ys W hD rfl hI hD0
      obtain ⟨vk2, q3, hown3, hat3⟩ := hI.row
      have hp3 := calmRow_pot s (outN s.es lk[k]) lk
      have HD := Lib.hid hD0
      have HQ := Lib.hid q3
      have HW := Lib.hid hown3
      have HI := Lib.hid hI
      clear hD0 q3 hown3 hI
      gi_wp2
      have hsw := hX.size
      have hsW := HI.out.bt.size
      refine ⟨⟨_, _, _, _, _, _, _, _, _, _, _, _, _, _, ?calmP, rfl⟩, ?calmM⟩
      case calmP =>
        have hbx : Boxed W w.heap.size 111 (.pointer (some ⟨g, 0, none⟩)) := (HI.out.bt.block _ q10.lt (by
          rintro (e | e)
          · exact absurd e (by omega)
          · have := (hown0 _ e).1; omega)).trans q10
        have hXX : Ext w W := Bt.new (hX.trans' hX0) HI.out.bt fun q _ hq => by
          rcases hq with rfl | hq
          · omega
          · have := (hown0 q hq).1; omega
        refine ⟨k + 1, calmRow s (outN s.es lk[k]) lk, vk2, by go_num, by omega, hbx, HQ.out, HW.out, HM.out.cons (by omega) (by omega) HD.out fun r h1 h2 => ?_, hXX, by omega, ?_⟩
        · have h3 : W0.heap[r]? = some (.deferred (some [])) := ((Ext.kp (S := fun _ => True) hX0).block r h1 trivial).trans h2
          refine (HI.out.bt.block r (by omega) ?_).trans h3
          rintro (e | e)
          · subst e
            rw [show W0.heap[w.heap.size + 1]? = _ from q20] at h3
            cases h3
          · exact hr0.not_def h3 e
        · rw [← Hf.out]
          obtain ⟨m, hm⟩ : ∃ m, l.length + s.es.length - k = m + 1 := ⟨l.length + s.es.length - k - 1, by omega⟩
          rw [hm, calmGo, dif_pos hlt, show l.length + s.es.length - (k + 1) = m from by omega]
          rfl
      case calmM => simp [intOf]; omega
    case stop =>
      rintro D c pre W _ _ h _
      exact h.elim
  · have hsz : lk.length < 4611686018427387904 := by have := hok.2.2.2.1; omega
    have hno : (Value.slice Ak lk.length ck).ownBlock ≠ some w.heap.size ∧ (Value.slice Ak lk.length ck).ownBlock ≠ some (w.heap.size + 1) := by
      obtain ⟨news, h2, _⟩ := hown
      exact ⟨fun e => by have := (own_row_base h2 _ e).1; omega, fun e => by have := (own_row_base h2 _ e).1; omega⟩
    have HO := Lib.hid hown
    have HM := Lib.hid hM
    have hval : calmL s l = sortI lk := by
      rw [calmL, ← hf.out]
      cases hq : l.length + s.es.length - k with
      | zero => rw [calmGo]
      | succ m => rw [calmGo, dif_neg hlt]
    have HV := Lib.hid hval
    have HN := Lib.hid hno
    clear hown hM hval hf hno
    gi_wp2_with fail
    refine ⟨trivial, ?_⟩
    gi_at_call 59
    refine (callsIn_wide.2 (sort_own _ _ lk _ wr HO.out hsz)).mono ?_
    rintro e w2 ⟨rfl, ho2, hb2⟩
    have e2' : w2.cell? ⟨w.heap.size + 1, 0, none⟩ = some (Value.slice Ak lk.length ck) := hb2.cell e2 HN.out.2
    have HO2 := Lib.hid ho2
    clear ho2
    gi_wp2_with fail
    have hM2 : Marks (w.heap.size + 2) ds w2 := HM.out.keep fun r hr h => (hb2.block r (Array.getElem?_eq_some_iff.1 h).1 (HO.out.not_def h)).trans h
    refine Marks.leave (by simp) hM2 fun w3 hb3 => ?_
    refine ⟨_, results_tmp rfl _ _ _, _, rfl, ?_, ?_⟩
    · rw [HV.out]
      exact (HO2.out.bt RInt.good hb3 fun b _ hz => ⟨fun h => h, HO2.out.not_def hz.2⟩).base (by omega)
    · exact Bt.new (Bt.new hX hb2 fun i _ hi => by
        obtain ⟨news, h2, _⟩ := HO.out
        have := (own_row_base h2 i hi).1
        omega) hb3 fun i _ hi => by have := hi.1; omega
end Go.Proofs.YtegenalcheooeaaGreat

