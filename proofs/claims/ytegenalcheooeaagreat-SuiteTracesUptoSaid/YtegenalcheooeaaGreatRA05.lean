/- Of the proof of a law of the suites: RAccepted, RHas. -/
import Derived.Test.YtegenalcheooeaaGreatB31
import Derived.Test.YtegenalcheooeaaGreatRA04
set_option linter.unusedSectionVars false
set_option linter.unusedSimpArgs false
set_option linter.unusedVariables false
namespace Go.Proofs.YtegenalcheooeaaGreat
open Go.RowKit
attribute [local go_sem] cell?_exto
section
open Go.Shelf

/-- An edge shows a label. -/
def acB (s : Sy) (bs : List Bool) (e : Ed) : Bool := markB bs e.f.toNat && (match s.ls[e.l.toNat]? with | some y => visB y.g | none => false)
def acX (s : Sy) (bs : List Bool) (k : Nat) : List Int := ((s.es.take k).filter (acB s bs)).map (·.l)
theorem acX_succ (s : Sy) (bs : List Bool) {k : Nat} (h : k < s.es.length) : acX s bs (k + 1) = if acB s bs s.es[k] = true then acX s bs k ++ [s.es[k].l] else acX s bs k := by
 unfold acX
 rw [List.take_succ_eq_append_getElem h, List.filter_append, List.map_append, List.filter_cons]
 split <;> simp
/-- The labels, by their numbers, that a state accepts. -/
def accM (s : Sy) (n st : Nat) : List Bool := marksOf s.ls.length (acX s (closedM s ((List.replicate n false).set st true)) s.es.length)
theorem accM_len (s : Sy) (n st : Nat) : (accM s n st).length = s.ls.length := marksOf_len _ _
set_option maxHeartbeats 8000000 in
set_option maxRecDepth 100000 in
theorem accepted_c (S : Nat → Prop) (s : Sy) (hok : okSyP s) (cs : List Value) (n st : Nat) (hn : s.n = (n : Int)) (hst : st < n) (w : World) (hx : RSy S w s cs) :
  Calls Tryz.prog 156 #[.agg cs.toArray, .int .i64 (st : Int)] w (ClosedPost s.ls.length (accM s n st) w) := by
 have hn1 : n ≤ 20000 := by have := hok.2.1; omega
 have hll := hok.2.2.1
 have hel := hok.2.2.2.1
 have hed : Hid (∀ j, (h : j < s.es.length) → okEd s s.es[j] = true) := fun j h => (hok.2.2.2.2.2 j h).1
 obtain ⟨B0, hB0⟩ : ∃ B0, (List.replicate n false).set st true = B0 := ⟨_, rfl⟩
 have hB0l : B0.length = n := by rw [← hB0]; simp
 have hcl := fun W (hW : Ext w W) v (hv : RSl RBool 1 (fun _ => True) W B0 [v]) => closed_c (fun _ => True) s hok cs B0 v W (RSy.good.bel (RSy.good.mono hx fun _ _ _ => trivial) hW) hv (by rw [hB0l, hn])
 have HVAL : Hid (accM s n st = marksOf s.ls.length (acX s (closedM s B0) s.es.length)) := by show _ = _; rw [accM, hB0]
 have HBL : Hid ((closedM s B0).length = n) := closedM_len s B0 n hn
 obtain ⟨BS, hBS⟩ : ∃ BS, closedM s B0 = BS := ⟨_, rfl⟩
 rw [hBS] at hcl HVAL HBL
 rw [hB0l] at hcl
 obtain ⟨_, v1, u1, rfl, hv, hu⟩ := id hx
 obtain ⟨Al, cl, rfl, hcl1, hcl0⟩ := hv.val
 obtain ⟨Ae, ce, rfl, hce, hce0⟩ := hu.val
 have HLB := Lib.hid hv
 have HEB := Lib.hid hu
 have HN := Lib.hid hn
 rw [hn] at hcl ⊢
 clear hx hv hu hn hok hBS hB0l
 obtain ⟨W0, hW0⟩ : ∃ W0, w.alloc (.cells #[.int .i64 (n : Int), .slice Al s.ls.length cl, .slice Ae s.es.length ce] 25) = W0 := ⟨_, rfl⟩
 have hE0 : Ext w W0 := by rw [← hW0]; exact (Ext.refl w).alloc _
 have hb0 : BoxL W0 w.heap.size 25 [.int .i64 (n : Int), .slice Al s.ls.length cl, .slice Ae s.es.length ce] := by rw [← hW0]; exact BoxL.new w 25 _
 have hz0 : W0.heap.size = w.heap.size + 1 := by rw [← hW0, World.size_alloc]
 have hrow := row_bools W0 W0.heap.size n (Nat.le_refl _) (by omega)
 have hmk := run_bools W0 n (by omega)
 obtain ⟨W1, hW1⟩ : ∃ W1, W0.alloc (.cells (Array.replicate n (.bool false)) 4) = W1 := ⟨_, rfl⟩
 rw [hW1] at hrow hmk
 have hE1 : Ext W0 W1 := by rw [← hW1]; exact (Ext.refl _).alloc _
 have hb1 := hb0.ext hE1
 have hz1 : W1.heap.size = w.heap.size + 2 := by rw [← hW1, World.size_alloc, hz0]
 rw [hz0] at hrow hmk
 have hset := ROwn.put1 RBool.good hrow (by simp) st (.bool true) true (by simpa using hst) rfl
 rw [hB0] at hset
 obtain ⟨_, gc, _, gf⟩ := ROwn.get1 hrow st (by simpa using hst)
 have hbs : Bt (fun q => q = w.heap.size + 1) W1 (W1.setCell ⟨w.heap.size + 1, st, none⟩ (.bool true)) := Bt.set (Z := fun q => q = w.heap.size + 1) (Bt.refl _ W1) (p := ⟨w.heap.size + 1, st, none⟩) (.inr rfl) _
 have hb2 := hb1.bt hbs (by omega)
 have hE2 : Ext w (W1.setCell ⟨w.heap.size + 1, st, none⟩ (.bool true)) := Bt.new (hE0.trans' hE1) hbs fun i _ hi => by
  have h : i = w.heap.size + 1 := hi
  omega
 have HE2 := Lib.hid hE2
 have HCL := Lib.hid (hcl _ hE2 _ ((RSl.good RBool.good).mono (hset.sl RBool.good (by decide)) fun _ _ _ => trivial))
 have HB2 := Lib.hid hb2
 have HW0 := Lib.hid hW0
 have x1 := hb0.cell 0 _
 have xz := hb0.lt
 have y1 := hb1.lt
 have c0 := hb2.cell 0 _
 have c1 := hb2.cell 1 _
 have c2 := hb2.cell 2 _
 have cz := hb2.lt
 have zn : (0 : Int) ≤ (st : Int) := by omega
 have zn2 : (st : Int) < (n : Int) := by omega
 clear hb0 hb1 hb2 hbs hE2 hE0 hE1 hrow hset hcl hW0 hW1 hz0 hz1 hB0
 go_enter Tryz.func156, Tryz.ntmps156
 go_upto_region 1 with (fail)
 rw [HW0.out]
 go_wp2_with fail
 obtain ⟨W2, hW2⟩ : ∃ W2, W1.setCell ⟨w.heap.size + 1, st, none⟩ (.bool true) = W2 := ⟨_, rfl⟩
 rw [hW2] at HCL HE2 HB2 c0 c1 c2 cz
 rw [hW2]
 go_wp2_with fail
 refine HCL.out.mono ?_
 rintro e w3 ⟨A, c, rfl, h1, h2⟩
 have HE3 : Hid (Ext w w3) := HE2.out.trans' h2
 have hb3 := HB2.out.ext h2
 have HM : Hid (RSl RBool 1 (fun _ => True) w3 BS [.slice A n c]) := (RSl.good RBool.good).mono (h1.sl RBool.good (by decide)) fun _ _ _ => trivial
 obtain ⟨m, hm⟩ : ∃ m, s.ls.length = m := ⟨_, rfl⟩
 rw [hm] at HVAL hll HB2 c1 hb3
 have hrow := row_bools w3 w.heap.size m HE3.out.size (by omega)
 have hmk := run_bools w3 m (by omega)
 obtain ⟨W4, hW4⟩ : ∃ W4, w3.alloc (.cells (Array.replicate m (.bool false)) 4) = W4 := ⟨_, rfl⟩
 rw [hW4] at hrow hmk
 have hE4 : Ext w3 W4 := by rw [← hW4]; exact (Ext.refl _).alloc _
 have HROW : Hid (RBs w.heap.size W4 (marksOf m (acX s BS 0)) (.slice (some ⟨w3.heap.size, 0, none⟩) m m)) := by
  show RBs _ _ _ _
  rw [acX, List.take_zero, List.filter_nil, List.map_nil, marksOf_nil]
  exact hrow
 have hz4 : W4.heap.size = w3.heap.size + 1 := by rw [← hW4, World.size_alloc]
 have hb4 := hb3.ext hE4
 have HB4 := Lib.hid hb4
 have HE4 := Lib.hid hE4
 have hpl : w.heap.size < w3.heap.size := by have := hb3.lt; omega
 have HW := Lib.hid (HE3.out.size)
 have HM0 := Lib.hid hm
 obtain ⟨gm, hgm⟩ : ∃ gm, w3.heap.size = gm := ⟨_, rfl⟩
 have HG : Hid (w3.heap.size ≤ gm) := by show _ ≤ _; omega
 have hg1 : gm < W4.heap.size := by omega
 have hgp : w.heap.size ≠ gm := by omega
 rw [hgm] at HROW hmk
 have x0 := hb3.cell 0 _
 have x1 := hb3.cell 1 _
 have x2 := hb3.cell 2 _
 have xz := hb3.lt
 clear hb3 hb4 hE4 hW4 hz4 hrow h1 h2 c0 c1 c2 cz hW2 gc gf hpl hm hgm HCL HB2 HE2
 go_wp2_with fail
 go_loopw [7] (fun vi wr => ∃ k : Nat, k ≤ s.es.length ∧ vi = .int .i64 k ∧ Bt (fun q => q = gm) W4 wr ∧ Hid (RBs w.heap.size wr (marksOf m (acX s BS k)) (.slice (some ⟨gm, 0, none⟩) m m))) (fun vi _ => s.es.length - (intOf vi).toNat)
 case atStart => exact ⟨0, Nat.zero_le _, rfl, Bt.refl _ _, HROW.out⟩
 case round =>
  clear x0 x1 x2 xz
  obtain ⟨k, hk, rfl, hbt, hMK⟩ := hrel
  have hE : Ext w3 wr := Bt.new HE4.out hbt fun i _ hi => by subst hi; exact HG.out
  have hbx := HB4.out.bt hbt hgp
  have x0 := hbx.cell 0 _
  have x1 := hbx.cell 1 _
  have x2 := hbx.cell 2 _
  have xz := hbx.lt
  have hgl : gm < wr.heap.size := Nat.lt_of_lt_of_le hg1 hbt.size
  clear hbx
  by_cases hlt : k < s.es.length
  ·obtain ⟨b, off, cs2, rfl, hb, hS, hl, hr, hcell⟩ := (REds.good.bel HEB.out (HE3.out.trans' hE)).get k hlt
   obtain ⟨_, _, _, rfl⟩ := id hr
   have g0 := hcell.get 0 _
   have g1 := hcell.get 1 _
   have g2 := hcell.get 2 _
   simp only [Nat.add_zero] at g0
   have hoke := hed.out k hlt
   have hst := acX_succ s BS hlt
   have hmv : acB s BS s.es[k] = (markB BS s.es[k].f.toNat && (match s.ls[s.es[k].l.toNat]? with | some y => visB y.g | none => false)) := rfl
   rw [okEd_iff] at hoke
   obtain ⟨qf, hq⟩ : ∃ q, s.es[k].f = q := ⟨_, rfl⟩; rw [hq] at hoke g0 hmv; clear hq
   obtain ⟨ql, hq⟩ : ∃ q, s.es[k].l = q := ⟨_, rfl⟩; rw [hq] at hoke g1 hmv hst; clear hq
   obtain ⟨qt, hq⟩ : ∃ q, s.es[k].t = q := ⟨_, rfl⟩; rw [hq] at hoke g2; clear hq
   obtain ⟨fi, rfl⟩ : ∃ fi : Nat, qf = (fi : Int) := ⟨qf.toNat, by omega⟩
   obtain ⟨li, rfl⟩ : ∃ li : Nat, ql = (li : Int) := ⟨ql.toNat, by omega⟩
   have hN := HN.out
   have hBLo := HBL.out
   have hli : li < s.ls.length := by omega
   have hfi : fi < BS.length := by omega
   rw [Int.toNat_natCast, Int.toNat_natCast, List.getElem?_eq_getElem hli, mark_get hfi] at hmv
   obtain ⟨bb, ob, cb2, hAb, hbb, _, _, hrb, hcb2⟩ := ((RSl.good RBool.good).bel HM.out hE).get fi hfi
   subst hAb
   obtain rfl : cb2 = [.bool BS[fi]] := hrb
   have d0 := hcb2.get 0 _
   simp only [Nat.add_zero, Nat.mul_one] at d0
   obtain ⟨bl, ol, cl2, hAl, hbl, _, _, hrl, hcl2⟩ := (RLbs.good.bel HLB.out (HE3.out.trans' hE)).get li hli
   subst hAl
   obtain ⟨_, vl, rfl, hvl⟩ := id hrl
   have l0 := hcl2.get 0 _
   have l1 := hcl2.get 1 _
   simp only [Nat.add_zero] at l0
   have hlm : li < m := by have := HM0.out; omega
   have z1 : (0 : Int) ≤ (li : Int) := by omega
   have z2 : (li : Int) < (m : Int) := by omega
   have z3 : (0 : Int) ≤ (fi : Int) := by omega
   have z4 : (fi : Int) < (n : Int) := by omega
   have z7 : (0 : Int) ≤ (k : Int) := by omega
   have z8 : (k : Int) < (s.es.length : Int) := by omega
   have hkl : k + 1 ≤ s.es.length := hlt
   simp only at hmv
   obtain ⟨bf, hbf⟩ : ∃ bf, BS[fi] = bf := ⟨_, rfl⟩
   rw [hbf] at hmv d0
   obtain ⟨gl, hgl2⟩ : ∃ gl, s.ls[li].g = gl := ⟨_, rfl⟩
   rw [hgl2] at hmv l0
   have hvis := fun W => Visible_c gl vl W
   obtain ⟨bt, hbt2⟩ : ∃ bt, visB gl = bt := ⟨_, rfl⟩
   rw [hbt2] at hmv hvis
   rw [hmv] at hst
   clear hr hcell hS hl hoke hmv hN hBLo hcb2 hcl2 hrl hvl hbf hbt2 hgl2
   cases bf
   ·have HC : Hid (acX s BS (k + 1) = acX s BS k) := by show _ = _; rw [hst]; rfl
    clear hst hvis
    go_wp2_with fail
    go_roundw
    case rel => exact ⟨k + 1, hkl, by go_num, hbt.ext ((Ext.refl wr).alloc _), by rw [HC.out]; exact hMK.out.ext RBool.good ((Ext.refl wr).alloc _)⟩
    case measure => simp [intOf]; omega
   ·cases bt
    ·have HC : Hid (acX s BS (k + 1) = acX s BS k) := by show _ = _; rw [hst]; rfl
     clear hst
     go_wp2_with fail
     refine (hvis _).mono ?_
     rintro e w4 ⟨rfl, hx4⟩
     go_wp2_with fail
     go_roundw
     case rel => exact ⟨k + 1, hkl, by go_num, hbt.ext (Ext.trans' ((Ext.refl wr).alloc _) hx4), by rw [HC.out]; exact hMK.out.ext RBool.good (Ext.trans' ((Ext.refl wr).alloc _) hx4)⟩
     case measure => simp [intOf]; omega
    ·have HC : Hid (acX s BS (k + 1) = acX s BS k ++ [(li : Int)]) := by show _ = _; rw [hst]; rfl
     clear hst
     go_wp2_with fail
     refine (hvis _).mono ?_
     rintro e w4 ⟨rfl, hx4⟩
     have hX4 : Ext wr w4 := Ext.trans' ((Ext.refl wr).alloc _) hx4
     have hMK4 := hMK.out.ext RBool.good hX4
     obtain ⟨ub4, gc4, hub4, gf4⟩ := ROwn.get1 hMK4 li (by rw [marksOf_len]; exact hlm)
     have hset := ROwn.put1 RBool.good hMK4 (marksOf_len _ _).symm li (.bool true) true (by rw [marksOf_len]; exact hlm) rfl
     have HB6 : Hid (Bt (fun q => q = gm) W4 (w4.setCell ⟨gm, li, none⟩ (.bool true))) := Bt.set (Z := fun q => q = gm) (hbt.ext hX4) (p := ⟨gm, li, none⟩) (.inr rfl) _
     have t4 := Ext.keep hx4 (show (wr.alloc (.cells #[.int .i64 (fi : Int), .int .i64 (li : Int), .int .i64 qt] 88)).cell? ⟨wr.heap.size, 1, none⟩ = some (.int .i64 (li : Int)) from (BoxL.new wr 88 [.int .i64 (fi : Int), .int .i64 (li : Int), .int .i64 qt]).cell 1 _)
     have tz : wr.heap.size < w4.heap.size := by have := hx4.size; rw [World.size_alloc] at this; omega
     have hgl4 : gm < w4.heap.size := Nat.lt_of_lt_of_le hgl hX4.size
     rw [marksOf_set, ← HC.out] at hset
     have HSET := Lib.hid hset
     clear hset hMK4 hub4 hMK hvis
     go_wp2_with fail
     go_roundw
     case rel => exact ⟨k + 1, hkl, by go_num, HB6.out, HSET.out⟩
     case measure => simp [intOf]; omega
  ·obtain rfl : k = s.es.length := by omega
   have HF : Hid (RBs w.heap.size wr (accM s n st) (.slice (some ⟨gm, 0, none⟩) m m)) := by
    show RBs _ _ _ _
    rw [HVAL.out]
    exact hMK.out
   go_wp2_with fail
   go_ret
   rw [HM0.out]
   exact ⟨_, _, rfl, HF.out, HE3.out.trans' hE⟩
end
section
set_option maxHeartbeats 4000000
set_option maxRecDepth 100000
/- The reference's has, accepts and refuses: walked. -/
open Go.Shelf

def hasB (l : List Lb) (x : Lb) : Bool := l.any fun y => sameLb y x
theorem hasB_take {l : List Lb} {x : Lb} {k : Nat} (h : k < l.length) : hasB (l.take (k + 1)) x = (hasB (l.take k) x || sameLb l[k] x) := by
 rw [hasB, hasB, List.take_succ_eq_append_getElem h, List.any_append, List.any_cons, List.any_nil, Bool.or_false]
theorem hasB_yes {l : List Lb} {x : Lb} {k : Nat} (h : k < l.length) (hs : sameLb l[k] x = true) : hasB l x = true := List.any_eq_true.2 ⟨l[k], List.getElem_mem h, hs⟩
theorem has_c (S : Nat → Prop) (l : List Lb) (v : Value) (x : Lb) (cx : List Value) (w : World) (hl : RLbs S w l [v]) (hlx : RLb S w x cx) :
  Calls Tryz.prog 233 #[v, .agg cx.toArray] w fun e w' => e = .returned (.bool (hasB l x)) ∧ Ext w w' := by
 have HX := Lib.hid hl
 have HLX := Lib.hid hlx
 obtain ⟨A, c, rfl, hc, hc0⟩ := hl.val
 obtain ⟨_, vx, rfl, hvx⟩ := id hlx
 obtain ⟨gx, hgx⟩ : ∃ gx, x.g = gx := ⟨_, rfl⟩
 rw [hgx]
 rw [hgx] at HLX
 obtain ⟨W0, hW0⟩ : ∃ W0, w.alloc (.cells #[.int .i64 gx, vx] 61) = W0 := ⟨_, rfl⟩
 have hB0 : BoxL W0 w.heap.size 61 [.int .i64 gx, vx] := by rw [← hW0]; exact BoxL.new w 61 _
 have hE0 : Ext w W0 := by rw [← hW0]; exact (Ext.refl w).alloc _
 have HB0 := Lib.hid hB0
 have HE0 := Lib.hid hE0
 have HW0 := Lib.hid hW0
 clear hl hlx hvx hgx hB0 hE0 hW0
 go_enter Tryz.func233, Tryz.ntmps233
 go_upto_region 1 with (fail)
 rw [HW0.out]
 go_wp2_with fail
 go_loopw [5] (fun vi wr => ∃ k : Nat, k ≤ l.length ∧ vi = .int .i64 k ∧ Ext W0 wr ∧ Hid (hasB (l.take k) x = false)) (fun vi _ => l.length - (intOf vi).toNat)
 case atStart => exact ⟨0, Nat.zero_le _, rfl, Ext.refl _, (rfl : hasB [] x = false)⟩
 case round =>
  obtain ⟨k, hk, rfl, hE, hno⟩ := hrel
  have hE' : Ext w wr := HE0.out.trans' hE
  have hbx := HB0.out.ext hE
  have y0 := hbx.cell 0 _
  have y1 := hbx.cell 1 _
  have yz := hbx.lt
  clear hbx
  by_cases hlt : k < l.length
  ·obtain ⟨b, off, cs, rfl, hb, hS, hl, hr, hcell⟩ := (RLbs.good.bel HX.out hE').get k hlt
   have hsame := fun W (hW : Ext wr W) => rSameLabel_c S _ x _ _ W (RLb.good.bel hr hW) (RLb.good.bel HLX.out (hE'.trans' hW))
   obtain ⟨_, v3, rfl, hv3⟩ := id hr
   have a0 := hcell.get 0 _
   have a1 := hcell.get 1 _
   simp only [Nat.add_zero] at a0
   have HTK := Lib.hid (hasB_take (x := x) hlt)
   have hY := hasB_yes (x := x) hlt
   have hk1 : k + 1 ≤ l.length := hlt
   obtain ⟨q1, hq1⟩ : ∃ q1, l[k].g = q1 := ⟨_, rfl⟩
   rw [hq1] at hsame a0
   obtain ⟨bs, hbs⟩ : ∃ bs, sameLb l[k] x = bs := ⟨_, rfl⟩
   rw [hbs] at hsame HTK hY
   have hX2 : ∀ (y : World), Ext wr (exto wr y) := fun y => exto_ext _ y
   clear hcell hl hS hr hv3 hq1 hbs
   cases bs
   ·clear hY
    go_wp2_with fail
    (refine wp_region_ext (by kernel_rfl) (by kernel_rfl) ?_; (repeat (first | go_big_quiet_step ((go_at_call 133; exact quiet_extD (hsame _ (hX2 _)))) | quiet_step ((go_at_call 133; exact quiet_extD (hsame _ (hX2 _)))))); refine wpQuiet_nil ?_)
    intro w4 hx4
    go_wp2_with fail
    go_roundw
    case rel => exact ⟨k + 1, hk1, by go_num, hE.trans' hx4, (by rw [HTK.out, hno.out]; rfl : hasB (l.take (k + 1)) x = false)⟩
    case measure => simp [intOf]; omega
   ·have HY := Lib.hid (hY rfl)
    clear hY
    go_wp2_with fail
    (refine wp_region_ext (by kernel_rfl) (by kernel_rfl) ?_; (repeat (first | go_big_quiet_step ((go_at_call 133; exact quiet_extD (hsame _ (hX2 _)))) | quiet_step ((go_at_call 133; exact quiet_extD (hsame _ (hX2 _)))))); refine wpQuiet_nil ?_)
    intro w4 hx4
    go_wp2_with fail
    go_ret
    exact ⟨by rw [HY.out]; rfl, hE'.trans' hx4⟩
  ·obtain rfl : k = l.length := by omega
   have HF : Hid (hasB l x = false) := by have h := hno.out; rw [List.take_length] at h; exact h
   go_wp2_with fail
   go_ret
   exact ⟨by rw [HF.out]; rfl, hE'⟩

/-- A state accepts one of some labels. -/
def acpFrom (s : Sy) (bs : List Bool) (l : List Lb) (k : Nat) : Bool := (List.range k).any fun i => markB bs i && (match s.ls[i]? with | some y => hasB l y | none => false)
def acpB (s : Sy) (n st : Nat) (l : List Lb) : Bool := acpFrom s (accM s n st) l s.ls.length
theorem acp_succ (s : Sy) (bs : List Bool) (l : List Lb) (k : Nat) : acpFrom s bs l (k + 1) = (acpFrom s bs l k || (markB bs k && (match s.ls[k]? with | some y => hasB l y | none => false))) := by
 rw [acpFrom, acpFrom, List.range_succ, List.any_append, List.any_cons, List.any_nil, Bool.or_false]
theorem acp_yes (s : Sy) (bs : List Bool) (l : List Lb) {k m : Nat} (h : k < m) (hb : (markB bs k && (match s.ls[k]? with | some y => hasB l y | none => false)) = true) : acpFrom s bs l m = true :=
 List.any_eq_true.2 ⟨k, List.mem_range.2 h, hb⟩
theorem raccepts_c (S : Nat → Prop) (s : Sy) (hok : okSyP s) (cs : List Value) (n st : Nat) (hn : s.n = (n : Int)) (hst : st < n) (l : List Lb) (v : Value) (w : World) (hx : RSy S w s cs) (hl : RLbs S w l [v]) :
  Calls Tryz.prog 173 #[.agg cs.toArray, .int .i64 (st : Int), v] w fun e w' => e = .returned (.bool (acpB s n st l)) ∧ Ext w w' := by
 have hll := hok.2.2.1
 have hac := fun W (hW : Ext w W) => accepted_c S s hok cs n st hn hst W (RSy.good.bel hx hW)
 have hlen := accM_len s n st
 have HVAL : Hid (acpB s n st l = acpFrom s (accM s n st) l s.ls.length) := rfl
 obtain ⟨BS, hBS⟩ : ∃ BS, accM s n st = BS := ⟨_, rfl⟩
 rw [hBS] at hac hlen HVAL
 obtain ⟨_, v1, u1, rfl, hv, hu⟩ := id hx
 obtain ⟨Al, cl, rfl, hcl1, hcl0⟩ := hv.val
 obtain ⟨Ae, ce, rfl, hce, hce0⟩ := hu.val
 obtain ⟨A, c, rfl, hc, hc0⟩ := hl.val
 have HLB := Lib.hid hv
 have HL := Lib.hid hl
 rw [hn] at hac ⊢
 obtain ⟨m, hm⟩ : ∃ m, s.ls.length = m := ⟨_, rfl⟩
 rw [hm] at hac hlen HVAL hcl1 hll ⊢
 have HM0 := Lib.hid hm
 have HLN := Lib.hid hlen
 clear hx hv hu hn hok hBS hl hm hlen
 obtain ⟨W0, hW0⟩ : ∃ W0, w.alloc (.cells #[.int .i64 (n : Int), .slice Al m cl, .slice Ae s.es.length ce] 25) = W0 := ⟨_, rfl⟩
 have hE0 : Ext w W0 := by rw [← hW0]; exact (Ext.refl w).alloc _
 have hb0 : BoxL W0 w.heap.size 25 [.int .i64 (n : Int), .slice Al m cl, .slice Ae s.es.length ce] := by rw [← hW0]; exact BoxL.new w 25 _
 have x0 := hb0.cell 0 _
 have x1 := hb0.cell 1 _
 have x2 := hb0.cell 2 _
 have xz := hb0.lt
 have HB0 := Lib.hid hb0
 have HE0 := Lib.hid hE0
 have HW0 := Lib.hid hW0
 have hac0 := hac W0 hE0
 clear hb0 hE0 hW0 hac
 go_enter Tryz.func173, Tryz.ntmps173
 go_upto_region 1 with (fail)
 rw [HW0.out]
 go_wp2_with fail
 refine hac0.mono ?_
 rintro e w1 ⟨A1, c1, rfl, ho, h1⟩
 have HE1 : Hid (Ext w w1) := HE0.out.trans' h1
 have HM : Hid (RSl RBool 1 (fun _ => True) w1 BS [.slice A1 m c1]) := (RSl.good RBool.good).mono (ho.sl RBool.good (by decide)) fun _ _ _ => trivial
 have HB1 := Lib.hid (HB0.out.ext h1)
 have hm1 := HLN.out
 clear ho x0 x1 x2 xz
 go_wp2_with fail
 go_loopw [8] (fun vi wr => ∃ k : Nat, k ≤ m ∧ vi = .int .i64 k ∧ Ext w1 wr ∧ Hid (acpFrom s BS l k = false)) (fun vi _ => m - (intOf vi).toNat)
 case atStart => exact ⟨0, Nat.zero_le _, rfl, Ext.refl _, (rfl : acpFrom s BS l 0 = false)⟩
 case round =>
  obtain ⟨k, hk, rfl, hE, hno⟩ := hrel
  have hE' : Ext w wr := HE1.out.trans' hE
  have hbx := HB1.out.ext hE
  have x0 := hbx.cell 0 _
  have x1 := hbx.cell 1 _
  have x2 := hbx.cell 2 _
  have xz := hbx.lt
  clear hbx
  by_cases hlt : k < m
  ·have hkb : k < BS.length := by omega
   have hks : k < s.ls.length := by have := HM0.out; omega
   have HST := Lib.hid (acp_succ s BS l k)
   have hY := acp_yes s BS l hlt
   rw [mark_get hkb, List.getElem?_eq_getElem hks] at HST hY
   simp only at HST hY
   obtain ⟨bb, ob, cb2, hAb, hbb, _, _, hrb, hcb2⟩ := ((RSl.good RBool.good).bel HM.out hE).get k hkb
   subst hAb
   obtain rfl : cb2 = [.bool BS[k]] := hrb
   have d0 := hcb2.get 0 _
   simp only [Nat.add_zero, Nat.mul_one] at d0
   obtain ⟨bl, ol, cl2, hAl, hbl, _, _, hrl, hcl2⟩ := (RLbs.good.bel HLB.out hE').get k hks
   subst hAl
   have hhas := fun W (hW : Ext wr W) => has_c S l _ _ _ W (RLbs.good.bel HL.out (hE'.trans' hW)) (RLb.good.bel hrl hW)
   obtain ⟨_, vl, rfl, hvl⟩ := id hrl
   have l0 := hcl2.get 0 _
   have l1 := hcl2.get 1 _
   simp only [Nat.add_zero] at l0
   have hk1 : k + 1 ≤ m := hlt
   have z1 : (0 : Int) ≤ (k : Int) := by omega
   have z2 : (k : Int) < (m : Int) := by omega
   obtain ⟨gl, hgl⟩ : ∃ gl, s.ls[k].g = gl := ⟨_, rfl⟩
   rw [hgl] at hhas l0
   obtain ⟨bf, hbf⟩ : ∃ bf, BS[k] = bf := ⟨_, rfl⟩
   rw [hbf] at d0 HST hY
   obtain ⟨bh, hbh⟩ : ∃ bh, hasB l s.ls[k] = bh := ⟨_, rfl⟩
   rw [hbh] at hhas HST hY
   clear hcb2 hcl2 hrl hvl hgl hbf hbh
   cases bf
   ·clear hhas hY
    go_wp2_with fail
    go_roundw
    case rel => exact ⟨k + 1, hk1, by go_num, hE, (by rw [HST.out, hno.out]; rfl : acpFrom s BS l (k + 1) = false)⟩
    case measure => simp [intOf]; omega
   ·cases bh
    ·clear hY
     go_wp2_with fail
     refine (hhas _ bel).mono ?_
     rintro e w4 ⟨rfl, hx4⟩
     go_wp2_with fail
     go_roundw
     case rel => exact ⟨k + 1, hk1, by go_num, hE.trans' hx4, (by rw [HST.out, hno.out]; rfl : acpFrom s BS l (k + 1) = false)⟩
     case measure => simp [intOf]; omega
    ·have HY : Hid (acpB s n st l = true) := by show _ = _; rw [HVAL.out]; exact hY rfl
     clear hY
     go_wp2_with fail
     refine (hhas _ bel).mono ?_
     rintro e w4 ⟨rfl, hx4⟩
     go_wp2_with fail
     go_ret
     exact ⟨by rw [HY.out]; rfl, hE'.trans' hx4⟩
  ·obtain rfl : k = m := by omega
   have HF : Hid (acpB s n st l = false) := by show _ = _; rw [HVAL.out]; exact hno.out
   go_wp2_with fail
   go_ret
   exact ⟨by rw [HF.out]; rfl, hE'⟩

/-- One of some states refuses labels. -/
def refFrom (s : Sy) (n : Nat) (bs : List Bool) (l : List Lb) (k : Nat) : Bool := (List.range k).any fun i => markB bs i && !acpB s n i l
theorem refFrom_succ (s : Sy) (n : Nat) (bs : List Bool) (l : List Lb) (k : Nat) : refFrom s n bs l (k + 1) = (refFrom s n bs l k || (markB bs k && !acpB s n k l)) := by
 rw [refFrom, refFrom, List.range_succ, List.any_append, List.any_cons, List.any_nil, Bool.or_false]
theorem refFrom_yes (s : Sy) (n : Nat) (bs : List Bool) (l : List Lb) {k m : Nat} (h : k < m) (hb : (markB bs k && !acpB s n k l) = true) : refFrom s n bs l m = true :=
 List.any_eq_true.2 ⟨k, List.mem_range.2 h, hb⟩
theorem rrefuses_c (S : Nat → Prop) (s : Sy) (hok : okSyP s) (cs : List Value) (n : Nat) (hn : s.n = (n : Int)) (bs : List Bool) (hbl : bs.length = n) (l : List Lb) (vb v : Value) (w : World) (hx : RSy S w s cs) (hm : RSl RBool 1 S w bs [vb]) (hl : RLbs S w l [v]) :
  Calls Tryz.prog 110 #[.agg cs.toArray, vb, v] w fun e w' => e = .returned (.bool (refFrom s n bs l n)) ∧ Ext w w' := by
 have hn1 : n ≤ 20000 := by have := hok.2.1; omega
 have hac := fun st hst W (hW : Ext w W) => raccepts_c S s hok cs n st hn hst l v W (RSy.good.bel hx hW) (RLbs.good.bel hl hW)
 obtain ⟨_, v1, u1, rfl, hv, hu⟩ := id hx
 obtain ⟨Al, cl, rfl, hcl1, hcl0⟩ := hv.val
 obtain ⟨Ae, ce, rfl, hce, hce0⟩ := hu.val
 obtain ⟨Ab, cb, rfl, hcb, hcb0⟩ := hm.val
 obtain ⟨A, c, rfl, hc, hc0⟩ := hl.val
 have HM := Lib.hid hm
 rw [hn] at hac ⊢
 rw [hbl] at hcb HM ⊢
 have HBL := Lib.hid hbl
 have HAC := Lib.hid hac
 clear hx hv hu hn hok hl hm hbl hac
 obtain ⟨W0, hW0⟩ : ∃ W0, w.alloc (.cells #[.int .i64 (n : Int), .slice Al s.ls.length cl, .slice Ae s.es.length ce] 25) = W0 := ⟨_, rfl⟩
 have hE0 : Ext w W0 := by rw [← hW0]; exact (Ext.refl w).alloc _
 have hb0 : BoxL W0 w.heap.size 25 [.int .i64 (n : Int), .slice Al s.ls.length cl, .slice Ae s.es.length ce] := by rw [← hW0]; exact BoxL.new w 25 _
 have HB0 := Lib.hid hb0
 have HE0 := Lib.hid hE0
 have HW0 := Lib.hid hW0
 clear hb0 hE0 hW0
 go_enter Tryz.func110, Tryz.ntmps110
 go_upto_region 1 with (fail)
 rw [HW0.out]
 go_wp2_with fail
 go_loopw [7] (fun vi wr => ∃ k : Nat, k ≤ n ∧ vi = .int .i64 k ∧ Ext W0 wr ∧ Hid (refFrom s n bs l k = false)) (fun vi _ => n - (intOf vi).toNat)
 case atStart => exact ⟨0, Nat.zero_le _, rfl, Ext.refl _, (rfl : refFrom s n bs l 0 = false)⟩
 case round =>
  obtain ⟨k, hk, rfl, hE, hno⟩ := hrel
  have hE' : Ext w wr := HE0.out.trans' hE
  have hbx := HB0.out.ext hE
  have x0 := hbx.cell 0 _
  have x1 := hbx.cell 1 _
  have x2 := hbx.cell 2 _
  have xz := hbx.lt
  clear hbx
  by_cases hlt : k < n
  ·have hkb : k < bs.length := by have := HBL.out; omega
   have HST := Lib.hid (refFrom_succ s n bs l k)
   have hY := refFrom_yes s n bs l hlt
   rw [mark_get hkb] at HST hY
   obtain ⟨bb, ob, cb2, hAb, hbb, _, _, hrb, hcb2⟩ := ((RSl.good RBool.good).bel HM.out hE').get k hkb
   subst hAb
   obtain rfl : cb2 = [.bool bs[k]] := hrb
   have d0 := hcb2.get 0 _
   simp only [Nat.add_zero, Nat.mul_one] at d0
   have hacp := fun W (hW : Ext wr W) => HAC.out k hlt W (hE'.trans' hW)
   have hk1 : k + 1 ≤ n := hlt
   have z1 : (0 : Int) ≤ (k : Int) := by omega
   have z2 : (k : Int) < (n : Int) := by omega
   obtain ⟨bf, hbf⟩ : ∃ bf, bs[k] = bf := ⟨_, rfl⟩
   rw [hbf] at d0 HST hY
   obtain ⟨bh, hbh⟩ : ∃ bh, acpB s n k l = bh := ⟨_, rfl⟩
   rw [hbh] at hacp HST hY
   clear hcb2 hbf hbh
   cases bf
   ·clear hacp hY
    go_wp2_with fail
    go_roundw
    case rel => exact ⟨k + 1, hk1, by go_num, hE, (by rw [HST.out, hno.out]; rfl : refFrom s n bs l (k + 1) = false)⟩
    case measure => simp [intOf]; omega
   ·cases bh
    ·have HY := Lib.hid (hY rfl)
     clear hY
     go_wp2_with fail
     refine (hacp _ bel).mono ?_
     rintro e w4 ⟨rfl, hx4⟩
     go_wp2_with fail
     go_ret
     exact ⟨by rw [HY.out]; rfl, hE'.trans' hx4⟩
    ·clear hY
     go_wp2_with fail
     refine (hacp _ bel).mono ?_
     rintro e w4 ⟨rfl, hx4⟩
     go_wp2_with fail
     go_roundw
     case rel => exact ⟨k + 1, hk1, by go_num, hE.trans' hx4, (by rw [HST.out, hno.out]; rfl : refFrom s n bs l (k + 1) = false)⟩
     case measure => simp [intOf]; omega
  ·obtain rfl : k = n := by omega
   have HF := hno
   go_wp2_with fail
   go_ret
   exact ⟨by rw [HF.out]; rfl, hE'⟩
end
end Go.Proofs.YtegenalcheooeaaGreat
