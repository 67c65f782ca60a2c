/- Of the proof of a law of the suites: LKey, LArcs1. -/
import Derived.Test.YtegenalcheooeaaGreatB03
import Derived.Test.YtegenalcheooeaaGreatB10
import Derived.Test.YtegenalcheooeaaGreatB19
import Derived.Test.YtegenalcheooeaaGreatB26
set_option linter.unusedSectionVars false
set_option linter.unusedSimpArgs false
set_option linter.unusedVariables false
namespace Go.Proofs.YtegenalcheooeaaGreat
open Go.RowKit
attribute [local go_sem] cell?_exto
section
set_option maxHeartbeats 1000000
set_option maxRecDepth 100000
/- lts.key: walked. -/
open Go.Shelf

def RBy : Rdr UInt8 := fun _ _ b cs => cs = [.int .u8 (b.toNat : Int)]
theorem RBy.good : Good RBy 1 := {
 len := by rintro S w x cs rfl; rfl
 one := by rintro S w x cs rfl u hu; simp at hu; subst hu; rfl
 move := fun h _ => h
 mono := fun h _ => h }
theorem info5b : (Tryz.prog.info? 5).map (fun i => (i.zero, i.size, i.bytes)) = some (some (.int .u8 0), 1, 1) := by kernel_rfl
def byCs (bs : List UInt8) : List Value := bs.map fun b => .int .u8 (b.toNat : Int)
theorem RBy.cells {S : Nat → Prop} {w : World} : ∀ {bs : List UInt8} {cs : List Value}, Flat RBy 1 S w bs cs → cs = byCs bs
 | [], cs, h => h
 | b :: bs, cs, ⟨c1, c2, h1, h2, h3, h4⟩ => by
  rw [h1, show c1 = _ from h3, RBy.cells h4]; rfl
theorem RBy.flat {S : Nat → Prop} {w : World} : ∀ bs : List UInt8, Flat RBy 1 S w bs (byCs bs)
 | [] => rfl
 | b :: bs => ⟨[.int .u8 (b.toNat : Int)], _, rfl, rfl, rfl, RBy.flat bs⟩
theorem Bt.join {Z : Nat → Prop} {a b c : World} (h : Bt Z a b) (k : Bt (fun q => Z q ∨ a.heap.size ≤ q) b c) : Bt Z a c :=
 ⟨k.os.trans h.os, k.tape.trans h.tape, k.output.trans h.output, Nat.le_trans h.size k.size, fun i hi hz => (k.block i (Nat.lt_of_lt_of_le hi h.size) (by rintro (h | h); exact hz h; omega)).trans (h.block i hi hz)⟩

/-- The bytes that are collected so far, in the box at Bb. -/
structure ByI (Bb base : Nat) (v0 : Value) (W0 : World) (xs : List UInt8) (W : World) : Prop where
 bt : Bt (fun q => q = Bb ∨ v0.ownBlock = some q) W0 W
 row : ∃ v, Boxed W Bb 306 v ∧ ROwn RBy 1 5 base (fun _ => False) W xs v ∧ (v.ownBlock = v0.ownBlock ∨ ∀ q, v.ownBlock = some q → W0.heap.size ≤ q)
theorem ByI.ext {Bb base : Nat} {v0 : Value} {W0 W W' : World} {xs : List UInt8} (h : ByI Bb base v0 W0 xs W) (he : Ext W W') : ByI Bb base v0 W0 xs W' := by
 obtain ⟨v, h1, h2, h3⟩ := h.row
 exact ⟨h.bt.ext he, v, (he.block Bb h1.lt).trans h1, h2.ext RBy.good he, h3⟩
theorem ByI.push {Bb base : Nat} {v0 v v' : Value} {W0 W w' : World} {xs ys : List UInt8} {o : Obj} (h : ByI Bb base v0 W0 xs W) (hb : Boxed W Bb 306 v) (hown : ROwn RBy 1 5 base (fun _ => False) W xs v) (hat : v.ownBlock = v0.ownBlock ∨ ∀ q, v.ownBlock = some q → W0.heap.size ≤ q)
  (hown' : w'.ownsRow base 5 1 v' (xs.length + ys.length) (byCs (xs ++ ys))) (hg : (W.alloc o).grownBy w' v.ownBlock) (hat' : v'.ownBlock = v.ownBlock ∨ v'.ownBlock = some (W.heap.size + 1)) (hv0 : v0.ownBlock ≠ some Bb) (hBl : Bb < W0.heap.size) :
  Boxed w' Bb 306 v ∧ ByI Bb base v0 W0 (xs ++ ys) (w'.setCell ⟨Bb, 0, none⟩ v') := by
 have hlt := hb.lt
 have hW0 := h.bt.size
 have hvB : v.ownBlock ≠ some Bb := fun e => by
  rcases hat with h | h
  ·exact hv0 (h ▸ e)
  ·have := h _ e; omega
 have hv'B : v'.ownBlock ≠ some Bb := fun e => by
  rcases hat' with h | h
  ·exact hvB (h ▸ e)
  ·rw [h] at e; injection e with e; omega
 have hb1 : Bt (fun q => v.ownBlock = some q) W w' := ((Ext.refl W).alloc o).bt.trans ((Bt.of_grown hg).mono fun q _ h => h.symm)
 have hbx : Boxed w' Bb 306 v := (hb1.block Bb hlt hvB).trans hb
 have hset : Bt (fun q => q = Bb) w' (w'.setCell ⟨Bb, 0, none⟩ v') := Bt.set (Z := fun q => q = Bb) (p := ⟨Bb, 0, none⟩) (Bt.refl _ _) (.inr rfl) _
 refine ⟨hbx, ⟨h.bt.join ((hb1.mono fun q _ hq => ?_).trans (hset.mono fun q _ hq => .inl (.inl hq))), v', hbx.set v', ⟨_, ?_, RBy.flat _⟩, ?_⟩⟩
 ·rcases hat with h | h
  ·exact .inl (.inr (h ▸ hq))
  ·exact .inr (h q hq)
 ·have := hown'.kept (grownBy_setCell' w' Bb v') (.inr hv'B)
  rw [List.length_append]
  exact this
 ·rcases hat' with h' | h'
  ·rw [h']; exact hat
  ·right
   intro q hq
   rw [h'] at hq
   injection hq with hq
   omega
theorem ByI.kp {Bb base : Nat} {v0 : Value} {W0 W : World} {xs : List UInt8} (h : ByI Bb base v0 W0 xs W) {K : Nat → Prop} (hK : ∀ q, K q → q ≠ Bb ∧ v0.ownBlock ≠ some q) : Kp K W0 W := h.bt.kp fun q _ hq hz => by
 rcases hz with hz | hz
 ·exact (hK q hq).1 hz
 ·exact (hK q hq).2 hz
theorem Kp.cell {K : Nat → Prop} {W W' : World} (h : Kp K W W') {B o : Nat} {v : Value} (hc : W.cell? ⟨B, o, none⟩ = some v) (hK : K B) : W'.cell? ⟨B, o, none⟩ = some v :=
 (World.cell?_of_block (a := ⟨B, o, none⟩) (h.block B (World.block_lt_of_cell? W _ hc) hK)).trans hc
theorem keyTms_app : ∀ a b : List Tm, keyTms (a ++ b) = keyTms a ++ keyTms b
 | [], b => by rw [keyTms]; rfl
 | x :: a, b => by rw [List.cons_append, keyTms, keyTms, keyTms_app a b, List.append_assoc]
theorem keyTms_take (l : List Tm) (k : Nat) (h : k < l.length) : keyTms (l.take (k + 1)) = keyTms (l.take k) ++ keyTm l[k] := by
 rw [List.take_succ_eq_append_getElem h, keyTms_app, keyTms, keyTms, List.append_nil]
theorem keyTms_take_len (l : List Tm) (k : Nat) : (keyTms (l.take k)).length ≤ (keyTms l).length := by
 conv => rhs; rw [← List.take_append_drop k l, keyTms_app, List.length_append]
 omega

def KeyC (t : Tm) : Prop := ∀ (K : Nat → Prop) (Bb Ba base : Nat) (v0 : Value) (W0 : World) (cs : List Value) (xs : List UInt8) (W : World), (∀ q, K q → q ≠ Bb ∧ v0.ownBlock ≠ some q) → K Ba → base ≤ W0.heap.size → v0.ownBlock ≠ some Bb → Bb < W0.heap.size → RTm K W0 t cs →
  W0.cell? ⟨Ba, 0, none⟩ = some (.func (.func 287) #[] #[.pointer (some ⟨Bb, 0, none⟩), .pointer (some ⟨Ba, 0, none⟩)]) → ByI Bb base v0 W0 xs W → xs.length + (keyTm t).length ≤ 100000000000 →
  Calls Tryz.prog 287 #[.agg cs.toArray, .pointer (some ⟨Bb, 0, none⟩), .pointer (some ⟨Ba, 0, none⟩)] W fun e w' => e = .returned (.tuple #[]) ∧ ByI Bb base v0 W0 (xs ++ keyTm t) w'

theorem key_of (t : Tm) (hok : allV t = true) (ht : ∀ x ∈ t.l, KeyC x) : KeyC t := by
 intro K Bb Ba base v0 W0 cs xs w hK hKa hbs hv0 hBl hx hBa hI hlen
 have hn := allV_sub hok
 obtain ⟨i1, i2, v, rfl, hv⟩ := (RTm_iff ..).1 hx
 obtain ⟨A, c, rfl, hc, hc0⟩ := hv.val
 obtain ⟨vb, hbx, hown, hat⟩ := hI.row
 have hw0 := hI.bt.size
 have q0 := hbx.cell
 have qf := hbx.frozen
 have hbl := hbx.lt
 obtain ⟨news, hrow, hF⟩ := id hown
 obtain rfl := RBy.cells hF
 obtain ⟨i5, hi5, hzz⟩ := Option.map_eq_some_iff.1 info5b
 simp only [Prod.mk.injEq] at hzz
 obtain ⟨hz0, hz1, hz2⟩ := hzz
 have y1 : IntKind.u8.wrap t.n = t.n := IntWalk.u8_in _ ⟨by omega, by omega⟩
 have y2 : IntKind.u8.wrap (t.l.length : Int) = t.l.length := IntWalk.u8_in _ ⟨by omega, by omega⟩
 have hrow2 := (hrow.alloc (.cells #[.int .i64 t.k, .int .i64 t.n, .slice A t.l.length c] 159)).alloc (.cells #[.int .u8 t.n, .int .u8 t.l.length] 5)
 have hcc : ∀ j u, [Value.int .u8 t.n, .int .u8 t.l.length][j]? = some u → ((w.alloc (.cells #[.int .i64 t.k, .int .i64 t.n, .slice A t.l.length c] 159)).alloc (.cells #[.int .u8 t.n, .int .u8 t.l.length] 5)).cell? ((⟨w.heap.size + 1, 0, none⟩ : Addr).add j) = some u := by
  have := cells_new (w.alloc (.cells #[.int .i64 t.k, .int .i64 t.n, .slice A t.l.length c] 159)) #[.int .u8 t.n, .int .u8 t.l.length] 5
  rwa [World.size_alloc] at this
 obtain ⟨ys, hys⟩ : ∃ ys, ys = [UInt8.ofNat t.n.toNat, UInt8.ofNat t.l.length] := ⟨_, rfl⟩
 have hyc : byCs (xs ++ ys) = byCs xs ++ [.int .u8 t.n, .int .u8 t.l.length] := by
  have e1 := byte_of hn.1 hn.2.1
  have e2 := byte_of (n := (t.l.length : Int)) (by omega) (by omega)
  rw [Int.toNat_natCast] at e2
  rw [hys, byCs, List.map_append, ← byCs, List.map_cons, List.map_cons, List.map_nil, e1, e2]
 have hkt : keyTm t = ys ++ keyTms t.l := by rw [hys, keyTm_eq]; rfl
 have hyl : ys.length = 2 := by rw [hys]; rfl
 have hxl : xs.length ≤ 100000000000 := by omega
 have hI2 := hI.ext ((Ext.refl w).alloc (.cells #[.int .i64 t.k, .int .i64 t.n, .slice A t.l.length c] 159))
 have hbx2 : Boxed (w.alloc (.cells #[.int .i64 t.k, .int .i64 t.n, .slice A t.l.length c] 159)) Bb 306 vb := hbx.alloc _
 have hown2 := hown.ext RBy.good ((Ext.refl w).alloc (.cells #[.int .i64 t.k, .int .i64 t.n, .slice A t.l.length c] 159))
 have hpush : ∀ (v8 : Value) (w8 : World), w8.ownsRow base 5 1 v8 (xs.length + 2) (byCs xs ++ [.int .u8 t.n, .int .u8 t.l.length]) → ((w.alloc (.cells #[.int .i64 t.k, .int .i64 t.n, .slice A t.l.length c] 159)).alloc (.cells #[.int .u8 t.n, .int .u8 t.l.length] 5)).grownBy w8 vb.ownBlock →
   (v8.ownBlock = vb.ownBlock ∨ v8.ownBlock = some ((w.alloc (.cells #[.int .i64 t.k, .int .i64 t.n, .slice A t.l.length c] 159)).alloc (.cells #[.int .u8 t.n, .int .u8 t.l.length] 5)).heap.size) → Boxed w8 Bb 306 vb ∧ ByI Bb base v0 W0 (xs ++ ys) (w8.setCell ⟨Bb, 0, none⟩ v8) := fun v8 w8 h1 h2 h3 =>
  hI2.push hbx2 hown2 hat (by rw [hyl, hyc]; exact h1) h2 (by rw [World.size_alloc] at h3; exact h3) hv0 hBl
 have hvw : vb.ownBlock ≠ some w.heap.size := fun e => by have := (hown.own_lt e).2; omega
 have HX2 : Hid (∀ w8 : World, ((w.alloc (.cells #[.int .i64 t.k, .int .i64 t.n, .slice A t.l.length c] 159)).alloc (.cells #[.int .u8 t.n, .int .u8 t.l.length] 5)).grownBy w8 vb.ownBlock → w8.cell? ⟨w.heap.size, 2, none⟩ = some (.slice A t.l.length c)) := fun w8 hg =>
  (World.cell?_of_block (a := ⟨w.heap.size, 2, none⟩) (hg.block w.heap.size (by simp; omega) fun e => hvw e.symm)).trans (by go_simp)
 have HP := Lib.hid hpush
 have HV := Lib.hid hv
 have HT := Lib.hid ht
 have HKT := Lib.hid hkt
 have HL : Hid (xs.length + 2 + (keyTms t.l).length ≤ 100000000000) := by show _ ≤ _; rw [hkt, List.length_append, hyl] at hlen; omega
 clear hx hv ht hI hI2 hbx hbx2 hown hown2 hF hpush hyc hys hkt hat hrow hlen
 go_enter Tryz.func287, Tryz.ntmps287
 go_wp2_with (at_builtin; refine wpList_append_own_at _ rfl _ _ 306 rfl base 5 i5 (.int .u8 0) 1 1 Tryz.underlying306 hi5 hz0 hz1 hz2 rfl (by decide) _ _ _ rfl hrow2 ⟨w.heap.size + 1, 0, none⟩ 2 2 [.int .u8 t.n, .int .u8 t.l.length] rfl rfl hcc (by simp [Value.oneCell']) (by unfold maxLen; omega) (by omega) (by simp; omega) ?_; intro v8 w8 hown8 hgrow8 hnil8 hat8; obtain ⟨hb8, hi8⟩ := HP.out v8 w8 hown8 hgrow8 hat8; obtain ⟨g8, c8, rfl⟩ := ownsRow_succ hown8; have q8 := hb8.cell; have f8 := hb8.frozen; have x2 := HX2.out w8 hgrow8; have HI8 := Lib.hid hi8; clear hi8 hb8)
 go_loopw [19] (fun vi wr => ∃ k : Nat, k ≤ t.l.length ∧ vi = .int .i64 k ∧ Hid (ByI Bb base v0 W0 (xs ++ ys ++ keyTms (t.l.take k)) wr)) (fun vi _ => t.l.length - (intOf vi).toNat)
 case atStart => exact ⟨0, Nat.zero_le _, rfl, by show ByI _ _ _ _ _ _; rw [List.take_zero, keyTms, List.append_nil]; exact HI8.out⟩
 case round =>
  obtain ⟨k, hk, rfl, hI⟩ := hrel
  have hKp := hI.out.kp hK
  by_cases hlt : k < t.l.length
  ·obtain ⟨b, off, cs, rfl, hb, hSb, hl, hr, hcell⟩ := HV.out.get k hlt
   obtain ⟨j1, j2, u, rfl, hu⟩ := (RTm_iff ..).1 hr
   have a0 := hKp.cell (hcell.get 0 _) hSb
   have a1 := hKp.cell (hcell.get 1 _) hSb
   have a2 := hKp.cell (hcell.get 2 _) hSb
   simp only [Nat.add_zero] at a0
   have gB0 := hKp.cell hBa hKa
   have hBalt := World.block_lt_of_cell? wr ⟨Ba, 0, none⟩ gB0
   have hle := keyTms_take_len t.l (k + 1)
   rw [keyTms_take t.l k hlt, List.length_append] at hle
   have hrec := fun W (hW : Ext wr W) => HT.out _ (List.getElem_mem hlt) K Bb Ba base v0 W0 _ _ W hK hKa hbs hv0 hBl hr hBa (hI.out.ext hW) (by have := HL.out; rw [List.length_append, List.length_append, hyl]; omega)
   obtain ⟨Au, cu, rfl, _, _⟩ := hu.val
   have hst := keyTms_take t.l k hlt
   have HST := Lib.hid hst
   obtain ⟨x, hxe⟩ : ∃ x, t.l[k] = x := ⟨_, rfl⟩
   rw [hxe] at a0 a1 a2 hrec HST
   have gB := Lib.cell?_alloc_some (.cells #[.int .i64 x.k, .int .i64 x.n, .slice Au x.l.length cu] 159) gB0
   clear hr hu hl hcell hst hle hxe hKp gB0
   go_wp2_with fail
   refine (hrec _ bel).mono ?_
   rintro e w5 ⟨rfl, h5⟩
   have H5 := Lib.hid h5
   clear h5
   go_wp2_with fail
   go_roundw
   case rel => exact ⟨k + 1, by omega, by go_num, by show ByI _ _ _ _ _ _; rw [HST.out, ← List.append_assoc]; exact H5.out⟩
   case measure => simp [intOf]; omega
  ·have hkl : t.l.take k = t.l := List.take_of_length_le (by omega)
   rw [hkl] at hI
   clear hkl hKp
   go_wp2_with fail
   go_end0
   rw [HKT.out, ← List.append_assoc]
   exact ⟨rfl, hI.out⟩
theorem keyT_c : ∀ t, allV t = true → KeyC t := Tm.ind fun t ih h => key_of t h fun x hx => ih x hx ((allV_sub h).2.2.2 x hx)

theorem key_c (S : Nat → Prop) (x : Lb) (hok : okLb x = true) (hsz : x.size ≤ 1000000000) (cs : List Value) (w : World) (hx : RLb S w x cs) :
  Calls Tryz.prog 272 #[.agg cs.toArray] w fun e w' => e = .returned (.string (keyS x)) ∧ Ext w w' := by
 have hv8 := okLb_v hok
 obtain ⟨i1, v, rfl, hv⟩ := id hx
 obtain ⟨A, c, rfl, hc, hc0⟩ := hv.val
 have hv2 : RTms (fun q => q < w.heap.size) w x.v [.slice A x.v.length c] := RTms.good.mono hv fun b hb _ => hb
 have HV := Lib.hid hv2
 have HT : Hid (∀ t ∈ x.v, KeyC t) := fun t ht => keyT_c t (hv8.2.2.2 t ht)
 have hg0 := hv8.1
 have hg1 := hv8.2.1
 have hl8 := hv8.2.2.1
 have hkl : (keyTms x.v).length = 2 * x.size := keyTms_len x.v
 have y0 : IntKind.i64.wrap (x.g + 4) = x.g + 4 := IntWalk.i64_in _ (by omega)
 have y1 : IntKind.u8.wrap (x.g + 4) = x.g + 4 := IntWalk.u8_in _ ⟨by omega, by omega⟩
 have y2 : IntKind.u8.wrap (x.v.length : Int) = x.v.length := IntWalk.u8_in _ ⟨by omega, by omega⟩
 clear hx hv hv2 hv8
 go_enter Tryz.func272, Tryz.ntmps272
 go_wp2_with fail
 obtain ⟨W0, hW0⟩ : ∃ W0, (((w.alloc (.cells #[.int .i64 x.g, .slice A x.v.length c] 61)).alloc (.cells #[.int .u8 (x.g + 4), .int .u8 x.v.length] 5)).alloc (.cells #[.slice (some ⟨w.heap.size + 1, 0, none⟩) 2 2] 306)).alloc (.cells #[.func (.func 287) #[] #[.pointer (some ⟨w.heap.size + 1 + 1, 0, none⟩), .pointer (some ⟨w.heap.size + 1 + 1 + 1, 0, none⟩)]] 307) = W0 := ⟨_, rfl⟩
 have hX0 : Ext w W0 := by rw [← hW0]; exact ((((Ext.refl w).alloc _).alloc _).alloc _).alloc _
 have hs0 : W0.heap.size = w.heap.size + 4 := by rw [← hW0]; simp
 obtain ⟨ys, hys⟩ : ∃ ys, ys = [UInt8.ofNat (x.g + 4).toNat, UInt8.ofNat x.v.length] := ⟨_, rfl⟩
 have hyl : ys.length = 2 := by rw [hys]; rfl
 have hkx : keyLb x = ys ++ keyTms x.v := by rw [hys]; rfl
 have hyc : byCs ys = [.int .u8 (x.g + 4), .int .u8 x.v.length] := by
  have e1 := byte_of (n := x.g + 4) (by omega) (by omega)
  have e2 := byte_of (n := (x.v.length : Int)) (by omega) (by omega)
  rw [Int.toNat_natCast] at e2
  rw [hys, byCs, List.map_cons, List.map_cons, List.map_nil, e1, e2]
 obtain ⟨W1, hW1⟩ : ∃ W1, w.alloc (.cells #[.int .i64 x.g, .slice A x.v.length c] 61) = W1 := ⟨_, rfl⟩
 have hs1 : W1.heap.size = w.heap.size + 1 := by rw [← hW1, World.size_alloc]
 obtain ⟨W2, hW2⟩ : ∃ W2, W1.alloc (.cells #[.int .u8 (x.g + 4), .int .u8 x.v.length] 5) = W2 := ⟨_, rfl⟩
 have hs2 : W2.heap.size = w.heap.size + 1 + 1 := by rw [← hW2, World.size_alloc, hs1]
 obtain ⟨W3, hW3⟩ : ∃ W3, W2.alloc (.cells #[.slice (some ⟨w.heap.size + 1, 0, none⟩) 2 2] 306) = W3 := ⟨_, rfl⟩
 have hs3 : W3.heap.size = w.heap.size + 1 + 1 + 1 := by rw [← hW3, World.size_alloc, hs2]
 have b1 : W0.heap[w.heap.size + 1]? = some (.cells #[.int .u8 (x.g + 4), .int .u8 x.v.length] 5 (0, 0)) := by
  rw [← hW0, hW1, hW2, hW3, Below.heap_alloc _ _ _ (by omega), ← hW3, Below.heap_alloc _ _ _ (by omega), ← hW2, ← hs1]
  exact heap_alloc_new _ _
 have b2 : Boxed W0 (w.heap.size + 1 + 1) 306 (.slice (some ⟨w.heap.size + 1, 0, none⟩) 2 2) := by
  show W0.heap[_]? = _
  rw [← hW0, hW1, hW2, hW3, Below.heap_alloc _ _ _ (by omega), ← hW3, ← hs2]
  exact heap_alloc_new _ _
 have b3 : W0.cell? ⟨w.heap.size + 1 + 1 + 1, 0, none⟩ = some (.func (.func 287) #[] #[.pointer (some ⟨w.heap.size + 1 + 1, 0, none⟩), .pointer (some ⟨w.heap.size + 1 + 1 + 1, 0, none⟩)]) := by
  rw [← hW0, hW1, hW2, hW3, ← hs3, World.cell?_alloc_new]; rfl
 clear hs1 hs2 hs3 hW1 hW2 hW3
 clear W1 W2 W3
 have hby : ByI (w.heap.size + 1 + 1) w.heap.size (.slice (some ⟨w.heap.size + 1, 0, none⟩) 2 2) W0 ys W0 :=
  ⟨Bt.refl _ _, _, b2, ⟨_, ⟨by rw [hyl, hyc]; rfl, .inr ⟨w.heap.size + 1, 2, _, by rw [hyl], by omega, b1, by omega, by unfold maxLen; omega, rfl, by rw [hyl, hyc]; rfl⟩⟩, RBy.flat _⟩, .inl rfl⟩
 rw [hW0]
 clear hW0 b1 b2 hys hyc
 obtain ⟨Ba, hBa⟩ : ∃ Ba, w.heap.size + 1 + 1 + 1 = Ba := ⟨_, rfl⟩
 obtain ⟨Bb, hBb⟩ : ∃ Bb, w.heap.size + 1 + 1 = Bb := ⟨_, rfl⟩
 rw [hBa, hBb]
 rw [hBa, hBb] at b3
 rw [hBb] at hby
 have hK : ∀ q, (q < w.heap.size ∨ q = Ba) → q ≠ Bb ∧ (Value.slice (some ⟨w.heap.size + 1, 0, none⟩) 2 2).ownBlock ≠ some q := by
  intro q hq
  refine ⟨by omega, ?_⟩
  intro e
  simp only [Value.ownBlock, Option.some.injEq] at e
  omega
 have hv0 : (Value.slice (some ⟨w.heap.size + 1, 0, none⟩) 2 2).ownBlock ≠ some Bb := by
  intro e
  simp only [Value.ownBlock, Option.some.injEq] at e
  omega
 have hHK := Lib.hid hK
 have hHv0 := Lib.hid hv0
 have hHX0 := Lib.hid hX0
 have hL : Hid (Bb < W0.heap.size ∧ w.heap.size ≤ W0.heap.size) := by show _ ∧ _; omega
 have HV0 : Hid (RTms (fun q => q < w.heap.size ∨ q = Ba) W0 x.v [.slice A x.v.length c]) := RTms.good.mono (RTms.good.move HV.out hX0.kp) fun b _ hb => .inl hb
 have HB := Lib.hid hby
 have HKX := Lib.hid hkx
 have HB3 := Lib.hid b3
 have HKL := Lib.hid hkl
 have hHS : Hid (w.heap.size < Bb) := by show _ < _; omega
 clear hBa hBb hK hv0 hX0 hs0 hby hkx b3 HV hkl
 go_loopw [20] (fun vi wr => ∃ k : Nat, k ≤ x.v.length ∧ vi = .int .i64 k ∧ Hid (ByI Bb w.heap.size (.slice (some ⟨w.heap.size + 1, 0, none⟩) 2 2) W0 (ys ++ keyTms (x.v.take k)) wr)) (fun vi _ => x.v.length - (intOf vi).toNat)
 case atStart => exact ⟨0, Nat.zero_le _, rfl, by show ByI _ _ _ _ _ _; rw [List.take_zero, keyTms, List.append_nil]; exact HB.out⟩
 case round =>
  obtain ⟨k, hk, rfl, hI⟩ := hrel
  have hKp := hI.out.kp hHK.out
  by_cases hlt : k < x.v.length
  ·obtain ⟨b, off, cs, rfl, hb, hSb, hl, hr, hcell⟩ := HV0.out.get k hlt
   obtain ⟨j1, j2, u, rfl, hu⟩ := (RTm_iff ..).1 hr
   have a0 := hKp.cell (hcell.get 0 _) hSb
   have a1 := hKp.cell (hcell.get 1 _) hSb
   have a2 := hKp.cell (hcell.get 2 _) hSb
   simp only [Nat.add_zero] at a0
   have gB0 := hKp.cell HB3.out (.inr rfl)
   have hle := keyTms_take_len x.v (k + 1)
   rw [keyTms_take x.v k hlt, List.length_append] at hle
   have hrec := fun W (hW : Ext wr W) => HT.out _ (List.getElem_mem hlt) _ Bb Ba w.heap.size _ W0 _ _ W hHK.out (.inr rfl) hL.out.2 hHv0.out hL.out.1 hr HB3.out (hI.out.ext hW) (by have := HKL.out; rw [List.length_append, hyl]; omega)
   obtain ⟨Au, cu, rfl, _, _⟩ := hu.val
   have hst := keyTms_take x.v k hlt
   have HST := Lib.hid hst
   obtain ⟨y, hxe⟩ : ∃ y, x.v[k] = y := ⟨_, rfl⟩
   rw [hxe] at a0 a1 a2 hrec HST
   have gB := Lib.cell?_alloc_some (.cells #[.int .i64 y.k, .int .i64 y.n, .slice Au y.l.length cu] 159) gB0
   clear hr hu hl hcell hst hle hxe hKp gB0
   go_wp2_with fail
   refine (hrec _ bel).mono ?_
   rintro e w5 ⟨rfl, h5⟩
   have H5 := Lib.hid h5
   clear h5
   go_wp2_with fail
   go_roundw
   case rel => exact ⟨k + 1, by omega, by go_num, by show ByI _ _ _ _ _ _; rw [HST.out, ← List.append_assoc]; exact H5.out⟩
   case measure => simp [intOf]; omega
  ·have hkl : x.v.take k = x.v := List.take_of_length_le (by omega)
   rw [hkl] at hI
   clear hkl hKp
   obtain ⟨vb, hbx, hown, hat⟩ := hI.out.row
   have q0 := hbx.cell
   obtain ⟨news, hrow, hF⟩ := hown
   obtain rfl := RBy.cells hF
   have hn2 : (ys ++ keyTms x.v).length = (keyTms x.v).length + 1 + 1 := by rw [List.length_append, hyl]; omega
   rw [hn2] at hrow
   obtain ⟨g, c9, rfl⟩ := ownsRow_succ hrow
   have hcv := run_convert_bytes_back (P := Tryz.prog) wr 306 9 5 ⟨g, 0, none⟩ c9 (ys ++ keyTms x.v) Tryz.underlying306 Tryz.underlying5 Tryz.underlying9 (fun j hj => hrow.cells rfl j _ (by rw [byCs, List.getElem?_map, List.getElem?_eq_getElem hj]; rfl))
   rw [hn2, ← HKX.out] at hcv
   have hXr : Ext w wr := Bt.new hHX0.out hI.out.bt fun q _ hq => by
    have h1 := hL.out
    have h2 := hHS.out
    rcases hq with hq | hq
    ·omega
    ·simp only [Value.ownBlock, Option.some.injEq] at hq; omega
   have HXr := Lib.hid hXr
   clear hXr hat hrow hF hn2 hbx
   go_wp2_with fail
   go_ret
   exact ⟨rfl, HXr.out⟩
end
section
open Go.Shelf

/-- m[a] with its 'ok'. -/
theorem IsMap.lookup2 {κ : Type} [DecidableEq κ] {P : Program} {K : κ → Value} {W : World} {m : Nat} {f : κ → Option Value} (h : IsMap K W m f) {t kt et : TypeId} (ht : P.underlying t = some (.map kt et)) (hk : KeyOk P kt K) {z : Value} (hz : (zeroValue et).run P W = .ok z W) (a : κ) :
  (Instr.lookup t (.map (some m)) (K a) true).run P W = .ok (.tuple #[(f a).getD z, .bool (f a).isSome]) W := by
 obtain ⟨es, clock, ks, h1, h2, h3, h4, h5⟩ := h
 obtain ⟨d, hd, hs, hc⟩ := hk.kind
 have hf := find_at hs a es.toList ks 0 h2
 have hlen : es.toList.length = ks.length := by have := congrArg List.length h2; simpa using this
 unfold Instr.lookup Instr.findKey
 by_cases hm : a ∈ ks
 ·rw [dif_pos hm] at hf
  have hi : ks.idxOf a < ks.length := List.idxOf_lt_length_of_mem hm
  have hv := h4 _ hi
  rw [List.getElem_idxOf] at hv
  rw [List.getElem?_eq_getElem (by omega)] at hv hf
  simp only [Option.map_some] at hv hf
  simp [run_underlying ht, run_underlying hd, getObj, Sem.run, h1, hc, hf, hv]
 ·rw [dif_neg hm] at hf
  rw [h5 a hm]
  simp [run_underlying ht, run_underlying hd, getObj, Sem.run, h1, hc, hf, hz]

def addLb (ls : List Lb) (x : Lb) : List Lb := if x ∈ ls then ls else ls ++ [x]
def mapF (ls : List Lb) (k : ByteArray) : Option Value := (ls.findIdx? fun y => decide (keyS y = k)).map fun i => .int .i64 (i : Int)
theorem findIdx_key : ∀ (ls : List Lb) (x : Lb), okLb x = true → (∀ y ∈ ls, okLb y = true) → ls.findIdx? (fun y => decide (keyS y = keyS x)) = if x ∈ ls then some (ls.idxOf x) else none
 | [], x, _, _ => by simp
 | y :: ls, x, hx, h => by
  have ih := findIdx_key ls x hx fun z hz => h z (by simp [hz])
  have hy := h y (by simp)
  rw [List.findIdx?_cons, ih]
  by_cases e : y = x
  ·subst e
   simp
  ·have hk : decide (keyS y = keyS x) = false := decide_eq_false fun h' => e (keyS_inj hy hx h')
   rw [hk]
   have hb : (y == x) = false := beq_eq_false_iff_ne.2 e
   by_cases hm : x ∈ ls
   ·simp [hm, List.idxOf_cons, hb]
   ·have : ¬ x ∈ y :: ls := by simp [hm, Ne.symm e]
    simp [hm, this]
theorem mapF_key (ls : List Lb) (x : Lb) (hx : okLb x = true) (h : ∀ y ∈ ls, okLb y = true) : mapF ls (keyS x) = if x ∈ ls then some (.int .i64 (ls.idxOf x : Int)) else none := by
 unfold mapF
 rw [findIdx_key ls x hx h]
 split <;> rfl
theorem mapF_snoc (ls : List Lb) (x : Lb) (hx : okLb x = true) (h : ∀ y ∈ ls, okLb y = true) (hn : x ∉ ls) : (fun b => if b = keyS x then some (Value.int .i64 (ls.length : Int)) else mapF ls b) = mapF (ls ++ [x]) := by
 funext b
 unfold mapF
 rw [List.findIdx?_append]
 by_cases e : b = keyS x
 ·subst e
  rw [if_pos rfl, findIdx_key ls x hx h, if_neg hn]
  simp
 ·rw [if_neg e]
  have : ([x].findIdx? fun y => decide (keyS y = b)) = none := by simp [Ne.symm e]
  rw [this]
  simp
theorem mapF_nil : mapF [] = fun _ => none := rfl

/-- The block of an arcs: labels ls, edges es (the edges' slice is ve). -/
structure ArcsM (base B : Nat) (ls : List Lb) (es : List Ed) (ve : Value) (W : World) : Prop where
 lt : B < base
 ex : ∃ (mo : Option Nat) (vl : Value) (T : Nat → Prop), BoxL W B 235 [.map mo, vl, ve] ∧ ROwn RLb 2 61 base T W ls vl ∧ ROwn REd 3 88 base (fun _ => False) W es ve ∧ (∀ q, T q → base ≤ q ∧ mo ≠ some q ∧ ve.ownBlock ≠ some q) ∧ (∀ q, vl.ownBlock = some q → ve.ownBlock ≠ some q) ∧
  ((mo = none ∧ ls = []) ∨ ∃ m, mo = some m ∧ base ≤ m ∧ IsMap Value.string W m (mapF ls))
theorem ArcsM.ext {base B : Nat} {ls : List Lb} {es : List Ed} {ve : Value} {W W' : World} (h : ArcsM base B ls es ve W) (he : Ext W W') : ArcsM base B ls es ve W' := by
 obtain ⟨mo, vl, T, h1, h2, h3, h4, h5, h6⟩ := h.ex
 refine ⟨h.lt, mo, vl, T, h1.ext he, h2.ext RLb.good he, h3.ext REd.good he, h4, h5, h6.imp id ?_⟩
 rintro ⟨m, rfl, hm, hp⟩
 exact ⟨m, rfl, hm, hp.move (he.block m hp.lt)⟩
theorem addLb_len (ls : List Lb) (x : Lb) : (addLb ls x).length ≤ ls.length + 1 := by unfold addLb; split <;> simp
theorem addLb_ok {ls : List Lb} {x : Lb} (hx : okLb x = true) (h : ∀ y ∈ ls, okLb y = true) : ∀ y ∈ addLb ls x, okLb y = true := fun y hy => by
 unfold addLb at hy
 split at hy
 ·exact h y hy
 ·rcases List.mem_append.1 hy with hy | hy
  ·exact h y hy
  ·rw [List.mem_singleton.1 hy]; exact hx
theorem ArcsM.at {base B : Nat} {ls : List Lb} {es : List Ed} {ve : Value} {W : World} (h : ArcsM base B ls es ve W) : W.cell? ⟨B, 2, none⟩ = some ve := by
 obtain ⟨mo, vl, T, h1, _⟩ := h.ex
 exact h1.cell 2 _
end
end Go.Proofs.YtegenalcheooeaaGreat
