/- Of the proof of a law of the suites: Delete, Least. -/
import Derived.Test.YtegenalcheooeaaGreatB05
import Derived.Test.YtegenalcheooeaaGreatB13
import Derived.Test.YtegenalcheooeaaGreatB14
import Derived.Test.YtegenalcheooeaaGreatB16
/- slices.DeleteFunc at lists of labels, with least's closure: walked. -/
set_option linter.unusedSectionVars false
set_option linter.unusedSimpArgs false
set_option linter.unusedVariables false
namespace Go.Proofs.YtegenalcheooeaaGreat
open Go.RowKit
attribute [local go_sem] cell?_exto

theorem findI_none {α : Type} (p : α → Bool) : ∀ l : List α, findI p l = -1 → l.filter (fun x => !p x) = l
  | [], _ => rfl
  | x :: l, h => by
    have ih := findI_none p l
    rw [findI] at h
    split at h
    · cases h
    · rename_i hx
      rw [List.filter_cons, if_pos (by simpa using hx), ih (by split at h <;> omega)]
theorem findI_some {α : Type} (p : α → Bool) : ∀ l : List α, findI p l ≠ -1 → ∃ i, ∃ h : i < l.length, findI p l = (i : Int) ∧ p l[i] = true ∧ (l.take i).filter (fun x => !p x) = l.take i
  | [], h => absurd rfl h
  | x :: l, h => by
    rw [findI] at h ⊢
    by_cases hx : p x = true
    · rw [if_pos hx]
      exact ⟨0, by simp, rfl, hx, rfl⟩
    · rw [if_neg hx] at h ⊢
      have hn : findI p l ≠ -1 := fun e => by rw [e] at h; simp at h
      obtain ⟨i, hi, h1, h2, h3⟩ := findI_some p l hn
      refine ⟨i + 1, by simpa using hi, ?_, by simpa using h2, ?_⟩
      · rw [h1]; split <;> omega
      · rw [List.take_succ_cons, List.filter_cons, if_pos (by simpa using hx), h3]

section
variable {α : Type} (q : α → Bool)
def filtY (l : List α) (m : Nat) : List α := (l.take m).filter q ++ l.drop ((l.take m).filter q).length
theorem filt_len (l : List α) (m : Nat) : ((l.take m).filter q).length ≤ m := Nat.le_trans (List.length_filter_le _ _) (by rw [List.length_take]; omega)
theorem filtY_len (l : List α) (m : Nat) : (filtY q l m).length = l.length := by
  have h := List.length_filter_le q (l.take m)
  rw [List.length_take] at h
  rw [filtY, List.length_append, List.length_drop]
  omega
theorem filtY_at (l : List α) (m j : Nat) (hj : ((l.take m).filter q).length ≤ j) (hl : j < l.length) : (filtY q l m)[j]'(by rw [filtY_len]; exact hl) = l[j] := by
  unfold filtY
  rw [List.getElem_append_right hj]
  simp only [List.getElem_drop]
  congr 1
  omega
theorem filtY_same (l : List α) (m : Nat) (hm : m < l.length) (he : q l[m] = false) : filtY q l (m + 1) = filtY q l m ∧ (l.take (m + 1)).filter q = (l.take m).filter q := by
  have h : (l.take (m + 1)).filter q = (l.take m).filter q := by rw [List.take_succ_eq_append_getElem hm, List.filter_append]; simp [he]
  exact ⟨by rw [filtY, h]; rfl, h⟩
theorem filtY_put (l : List α) (m : Nat) (hm : m < l.length) (he : q l[m] = true) :
    filtY q l (m + 1) = (filtY q l m).set ((l.take m).filter q).length l[m] ∧ (l.take (m + 1)).filter q = (l.take m).filter q ++ [l[m]] := by
  have h : (l.take (m + 1)).filter q = (l.take m).filter q ++ [l[m]] := by rw [List.take_succ_eq_append_getElem hm, List.filter_append]; simp [he]
  have hi := filt_len q l m
  refine ⟨?_, h⟩
  rw [filtY, filtY, h, List.set_append_right _ _ (Nat.le_refl _), Nat.sub_self, List.drop_eq_getElem_cons (show ((l.take m).filter q).length < l.length by omega), List.set_cons_zero, List.length_append, List.length_singleton, List.append_assoc]
  rfl
end

set_option maxHeartbeats 1000000 in
set_option maxRecDepth 100000 in
theorem deleteLbs_c (base : Nat) (T : Nat → Prop) (p : List Lb → Bool) (l : List (List Lb)) (v : Value) (B : Nat) (w : World) (hown : ROwn RLbs 1 22 base T w l v) (hlen : l.length ≤ 1000000000)
    (hp : ∀ x ∈ l, ∀ u W, Bt (fun b => v.ownBlock = some b) w W → RLbs (fun _ => True) W x [u] → Calls Tryz.prog 217 #[u, .pointer (some ⟨B, 0, none⟩)] W fun e w' => e = .returned (.bool (p x)) ∧ Ext W w') :
    Calls Tryz.prog 215 #[v, .func (.func 217) #[] #[.pointer (some ⟨B, 0, none⟩)]] w fun e w' => ∃ A c, e = .returned (.slice A (l.filter fun x => !p x).length c) ∧ ROwn RLbs 1 22 base T w' (l.filter fun x => !p x) (.slice A (l.filter fun x => !p x).length c) ∧ Bt (fun b => v.ownBlock = some b) w w' := by
  have hidx := idxPLbs p (fun _ => True) w l v ((RSl.good RLbs.good).mono (hown.sl RLbs.good (by decide)) fun _ _ _ => trivial) 217 #[.pointer (some ⟨B, 0, none⟩)] eg217 (fun x hx cs W hW hr => by
    obtain ⟨A, c, rfl, _⟩ := id hr
    exact hp x hx _ W hW.bt hr)
  by_cases hf : findI p l = -1
  · have hc : Hid ((l.filter fun x => !p x) = l) := findI_none p l hf
    rw [hf] at hidx
    obtain ⟨A, c, rfl, _, _⟩ := (hown.sl RLbs.good (by decide)).val
    have HO := Lib.hid hown
    clear hown hf
    go_enter Tryz.func215, Tryz.ntmps215
    go_wp2_with fail
    refine hidx.mono ?_
    rintro e w1 ⟨rfl, h1⟩
    go_wp2_with fail
    go_ret
    rw [hc.out]
    exact ⟨A, c, rfl, HO.out.ext RLbs.good h1, h1.bt⟩
  obtain ⟨k, hk, hf2, hpk, htk⟩ := findI_some p l hf
  rw [hf2] at hidx
  obtain ⟨g, cap, rfl⟩ : ∃ g cap, v = .slice (some ⟨g, 0, none⟩) l.length cap := by
    obtain ⟨news, h1, _⟩ := hown
    exact Joins.ownsRow_form h1 (by omega)
  have hcap : l.length ≤ cap ∧ cap ≤ 9223372036854775807 := by
    obtain ⟨A, c, he, h3, h4⟩ := (hown.sl RLbs.good (by decide)).val
    injection he with _ _ he
    exact ⟨by omega, by omega⟩
  have hZ : (fun b => (Value.slice (some ⟨g, 0, none⟩) l.length cap).ownBlock = some b) = fun b => b = g := by funext b; simp [Value.ownBlock, eq_comm]
  rw [hZ] at hp ⊢
  have HO := Lib.hid hown
  have HP := Lib.hid hp
  have hkb : ((k : Int) == -1) = false := beq_eq_false_iff_ne.2 (by omega)
  have hq1 : (fun x => !p x) l[k] = false := by show (!p l[k]) = false; rw [hpk]; rfl
  have HQ1 := Lib.hid hq1
  have HTK := Lib.hid htk
  clear hown hZ hf hf2 hp hpk hq1 htk
  go_enter Tryz.func215, Tryz.ntmps215
  go_wp2_with fail
  refine hidx.mono ?_
  rintro e w1 ⟨rfl, h1⟩
  go_wp2_with fail
  go_loopw [5, 6] (fun vi vj wr => ∃ m i : Nat, k < m ∧ m ≤ l.length ∧ vi = .int .i64 (i : Nat) ∧ vj = .int .i64 (m : Nat) ∧ i < m ∧ Hid (((l.take m).filter fun x => !p x).length = i ∧ ROwn RLbs 1 22 base T wr (filtY (fun x => !p x) l m) (.slice (some ⟨g, 0, none⟩) l.length cap)) ∧ Bt (fun b => b = g) w wr) (fun _ vj _ => l.length - (intOf vj).toNat)
  case atStart =>
    have h2 := filtY_same (fun x => !p x) l k hk HQ1.out
    have h3 : filtY (fun x => !p x) l k = l := by rw [filtY, HTK.out, List.length_take, Nat.min_eq_left (by omega), List.take_append_drop]
    refine ⟨k + 1, k, by omega, by omega, rfl, by go_num, by omega, ⟨?_, ?_⟩, h1.bt⟩
    · rw [h2.2, HTK.out, List.length_take, Nat.min_eq_left (by omega)]
    · rw [h2.1, h3]; exact HO.out.ext RLbs.good h1
  case round =>
    obtain ⟨m, i, hm1, hm2, rfl, rfl, hi, hR, hB⟩ := hrel
    by_cases hlt : m < l.length
    · have hlt4 : i < l.length := by omega
      obtain ⟨hci, hO3⟩ := hR.out
      obtain ⟨u1, a1, r1, _⟩ := hO3.get1 m (by rw [filtY_len]; exact hlt)
      rw [filtY_at (fun x => !p x) l m m (by omega) hlt] at r1
      have hcall := HP.out _ (List.getElem_mem hlt) u1 wr hB (RLbs.good.mono r1 fun _ _ _ => trivial)
      obtain ⟨A3, c3, rfl, _, _⟩ := r1.val
      by_cases hpm : p l[m] = true
      · rw [hpm] at hcall
        have hsame := Lib.hid (filtY_same (fun x => !p x) l m hlt (by show (!p l[m]) = false; rw [hpm]; rfl))
        have HO3 := Lib.hid hO3
        have HCI := Lib.hid hci
        clear hO3 r1 hci hR hpm
        go_wp2_with fail
        refine hcall.mono ?_
        rintro e w5 ⟨rfl, hx5⟩
        go_wp2_with fail
        go_roundw
        case rel =>
          refine ⟨m + 1, i, by omega, by omega, rfl, by go_num, by omega, ⟨?_, ?_⟩, hB.ext hx5⟩
          · rw [hsame.out.2]; exact HCI.out
          · rw [hsame.out.1]; exact HO3.out.ext RLbs.good hx5
        case measure => simp [intOf]; omega
      · rw [eq_false_of_ne_true hpm] at hcall
        have hput := Lib.hid (filtY_put (fun x => !p x) l m hlt (by show (!p l[m]) = true; rw [eq_false_of_ne_true hpm]; rfl))
        obtain ⟨u6, b6, _, f6⟩ := hO3.get1 i (by rw [filtY_len]; omega)
        have HO3 := Lib.hid hO3
        have HCI := Lib.hid hci
        have HR1 := Lib.hid r1
        clear hO3 r1 hci hR hpm
        go_wp2_with fail
        refine hcall.mono ?_
        rintro e w5 ⟨rfl, hx5⟩
        have b5 := Ext.keep hx5 b6
        have f5 := ext_fz hx5 (World.block_lt_of_cell? _ _ b6) f6
        clear b6 f6
        go_wp2_with fail
        go_roundw
        case rel =>
          have hput2 := ROwn.put1 RLbs.good (HO3.out.ext RLbs.good hx5) (by rw [filtY_len]) i (.slice A3 l[m].length c3) l[m] (by rw [filtY_len]; omega) (RLbs.good.bel HR1.out hx5)
          refine ⟨m + 1, i + 1, by omega, by omega, by go_num, by go_num, by omega, ⟨?_, ?_⟩, (hB.ext hx5).set (.inr rfl) _⟩
          · rw [hput.out.2, List.length_append, HCI.out]; rfl
          · rw [hput.out.1, HCI.out]; exact hput2
        case measure => simp [intOf]; omega
    · obtain ⟨hci, hO3⟩ := hR.out
      have hkd : m = l.length := by omega
      subst hkd
      rw [List.take_length] at hci
      have hcl := Lib.run_clear_slice (P := Tryz.prog) wr 30 22 0 (.slice none 0 0) Tryz.underlying30 (fun _ => by kernel_rfl) rfl rfl g i (l.length - i) (cap - i) (by omega) (fun j hj => by
        obtain ⟨u, h1, _⟩ := hO3.get1 (i + j) (by rw [filtY_len]; omega)
        rw [h1]; rfl) (fun j hj => by
        obtain ⟨u, _, _, h1⟩ := hO3.get1 (i + j) (by rw [filtY_len]; omega)
        exact h1)
      have hcut := Lib.hid (hO3.cut RLbs.good (by rw [filtY_len]) i (by omega) (List.replicate (l.length - i) (.slice none 0 0)) i (by omega))
      have hres : Hid ((l.filter fun x => !p x) = (filtY (fun x => !p x) l l.length).take i) := by
        show _ = _
        rw [filtY, List.take_length, List.take_append_of_le_length (by omega), ← hci, List.take_length]
      have HCI := Lib.hid hci
      clear hO3 hci hR
      go_wp2_with fail
      go_ret
      have hln : (l.filter fun x => !p x).length = i := HCI.out
      refine ⟨some ⟨g, 0, none⟩, cap, by rw [hln]; rfl, ?_, hB.trans hcut.out.2⟩
      rw [hln, hres.out]
      exact hcut.out.1
end Go.Proofs.YtegenalcheooeaaGreat

/- suite.least: walked. -/
set_option linter.unusedSectionVars false
set_option linter.unusedSimpArgs false
set_option linter.unusedVariables false
namespace Go.Proofs.YtegenalcheooeaaGreat
open Go.RowKit
attribute [local go_sem] cell?_exto
open Go.Shelf

def leastOf (m : List (List Lb)) : List (List Lb) := m.filter fun a => !(m.any (smaller a))
def leastS (l : List (List Lb)) : List (List Lb) := leastOf (cmpctS (sortS l))
theorem cmpctS_len (l : List (List Lb)) : (cmpctS l).length ≤ l.length := compactB_len eqSets l
theorem sortS_len (l : List (List Lb)) : (sortS l).length = l.length := sortB_len l
/-- A row of lists of labels of one's own. -/
def SetsPost (P : Nat → Prop) (base : Nat) (r : List (List Lb)) (Z : Nat → Prop) (w : World) (e : Ending) (w' : World) : Prop :=
  ∃ A c, e = .returned (.slice A r.length c) ∧ ROwn RLbs 1 22 base P w' r (.slice A r.length c) ∧ Bt Z w w'
theorem ROwn.own_lt {α : Type} {R : Rdr α} {k base : Nat} {e : TypeId} {T : Nat → Prop} {w : World} {xs : List α} {v : Value} (h : ROwn R k e base T w xs v) {b : Nat} (hb : v.ownBlock = some b) : base ≤ b ∧ b < w.heap.size := by
  obtain ⟨news, h1, _⟩ := h
  exact own_row_base h1 b hb
theorem bt_boxed {Z : Nat → Prop} {a b : World} {B : Nat} {t : TypeId} {v : Value} (h : Bt Z a b) (hb : Boxed a B t v) (hz : ¬ Z B) : Boxed b B t v := (h.block B hb.lt hz).trans hb
set_option maxHeartbeats 1000000 in
set_option maxRecDepth 100000 in
theorem least_c (P : Nat → Prop) (base : Nat) (hP : ∀ b, base ≤ b → P b) (l : List (List Lb)) (v : Value) (w : World) (hown : ROwn RLbs 1 22 base P w l v) (hbase : base ≤ w.heap.size) (hlen : l.length ≤ 1000000) (hel : ∀ x ∈ l, x.length ≤ 1000000) :
    Calls Tryz.prog 149 #[v] w (SetsPost P w.heap.size (leastS l) (fun b => v.ownBlock = some b) w) := by
  obtain ⟨A, c, rfl, hc, hc0⟩ := (hown.sl RLbs.good (by decide)).val
  have hob := fun b (hb : (Value.slice A l.length c).ownBlock = some b) => hown.own_lt hb
  have hX0 : Ext w (w.alloc (.cells #[.slice A l.length c] 30)) := (Ext.refl w).alloc _
  have hB0 := Boxed.new w 30 (.slice A l.length c)
  have hO0 := (hown.mono (T' := fun b => P b ∧ b < w.heap.size) RLbs.good fun b hb h => ⟨h, hb⟩).ext RLbs.good hX0
  have hs := sortS_own base _ l _ _ hO0 (by omega)
  have hls : (sortS l).length = l.length := sortS_len l
  have hlc : (cmpctS (sortS l)).length ≤ 1000000 := by have := cmpctS_len (sortS l); omega
  have HO0 := Lib.hid hO0
  clear hown hO0
  go_enter Tryz.func149, Tryz.ntmps149
  go_wp2_with fail
  refine hs.mono ?_
  rintro e w1 ⟨rfl, ho1, hb1⟩
  have hB1 := bt_boxed hb1 hB0 (fun e => by have := (hob _ e).2; omega)
  have hB1c := hB1.cell
  have hc1 := compactLbs_c base _ (sortS l) _ w1 ho1 (by omega)
  obtain ⟨m, hm⟩ : ∃ m, cmpctS (sortS l) = m := ⟨_, rfl⟩
  have hval : Hid (leastS l = leastOf m) := by show _ = _; rw [leastS, hm]
  have hmm : ∀ x ∈ m, x.length ≤ 1000000 := fun x hx => hel x ((sortB_mem l x).1 (compactB_mem eqSets _ x (by rw [← hm] at hx; exact hx)))
  rw [hm] at hc1 hlc
  clear hm
  go_wp2_with fail
  refine hc1.mono ?_
  rintro e w2 ⟨A2, c2, rfl, ho2, hb2⟩
  have hB2 := bt_boxed hb2 hB1 (fun e => by have := (hob _ e).2; omega)
  have hB2c := hB2.cell
  have hB2f := hB2.frozen
  have hz2 : w.heap.size + 1 ≤ w2.heap.size := by have h1 := hb1.size; have h2 := hb2.size; simp at h1; omega
  obtain ⟨W3, hW3⟩ : ∃ W3, w2.setCell ⟨w.heap.size, 0, none⟩ (.slice A2 m.length c2) = W3 := ⟨_, rfl⟩
  have hB3 : Boxed W3 w.heap.size 30 (.slice A2 m.length c2) := by rw [← hW3]; exact hB2.set _
  have hs3 : W3.heap.size = w2.heap.size := by rw [← hW3]; simp
  have hb3 : Bt (fun b => b = w.heap.size) w2 W3 := by rw [← hW3]; exact (Bt.refl (fun b => b = w.heap.size) w2).set (p := ⟨w.heap.size, 0, none⟩) (.inr rfl) _
  have hno2 : (Value.slice A2 m.length c2).ownBlock ≠ some w.heap.size := fun e => by
    obtain ⟨news, h1, _⟩ := ho2
    exact hB2.not_row (by decide) h1 e.symm
  have ho3 : ROwn RLbs 1 22 base (fun b => P b ∧ b < w.heap.size) W3 m (.slice A2 m.length c2) := ho2.bt RLbs.good hb3 fun b _ hz => by
    have hz' : b = w.heap.size := hz
    subst hz'
    exact ⟨fun h => Nat.lt_irrefl _ h.2, hno2⟩
  have hr3 : RSl RLbs 1 (fun b => P b ∧ b < W3.heap.size) W3 m [.slice A2 m.length c2] := (RSl.good RLbs.good).mono (ho3.sl RLbs.good (by decide)) fun b hb h => ⟨h.elim (fun h => h.1) (hP b), hb⟩
  have hcl := cloneLbs _ m _ W3 hr3 (by omega)
  have hB3c := hB3.cell
  clear ho2 hB1c hs hc1
  go_wp2_with fail
  clear hW3
  refine hcl.mono ?_
  rintro e w4 ⟨v4, rfl, ho4, hx4⟩
  obtain ⟨A4, c4, rfl, _, _⟩ := (ho4.sl RLbs.good (by decide)).val
  have ho4b := fun b hb => (ho4.own_lt (b := b) hb).1
  have hd := deleteLbs_c W3.heap.size _ (fun a => m.any (smaller a)) m (.slice A4 m.length c4) w.heap.size w4 ho4 (by omega) fun x hx u W hb hr => by
    have hk : Kp (fun b => b < W3.heap.size) W3 W := (Ext.kp hx4).trans (hb.kp fun b _ h e => by have := ho4b b e; omega)
    refine least1_c (fun _ => True) x m u (.slice A2 m.length c2) w.heap.size W hr ((RSl.good RLbs.good).mono ((RSl.good RLbs.good).move ((RSl.good RLbs.good).mono hr3 (S' := fun b => b < W3.heap.size) fun b hb _ => hb) hk) fun _ _ _ => trivial) (Nat.le_trans (hmm x hx) (by decide)) ?_
    exact (World.cell?_of_block (a := ⟨w.heap.size, 0, none⟩) (hk.block _ hB3.lt hB3.lt)).trans hB3.cell
  clear hcl
  go_wp2_with fail
  refine hd.mono ?_
  rintro e w5 ⟨A5, c5, rfl, ho5, hb5⟩
  have HO5 := Lib.hid ho5
  clear ho5 hd
  go_wp2_with fail
  go_ret
  have hXX : Bt (fun b => (Value.slice A l.length c).ownBlock = some b) w w5 := by
    have h0 : Bt (fun b => (Value.slice A l.length c).ownBlock = some b ∨ w.heap.size ≤ b) w w5 :=
      (((((hX0.bt.trans (hb1.mono fun b _ h => .inl h)).trans (hb2.mono fun b _ h => .inl h)).trans (hb3.mono fun b _ h => .inr (Nat.le_of_eq (Eq.symm h)))).trans hx4.bt).trans (hb5.mono fun b _ h => .inr (by have := ho4b b h; omega)))
    exact h0.mono fun b hb h => h.resolve_right (by omega)
  refine ⟨A5, c5, ?_, ?_, hXX⟩
  · rw [hval.out]; rfl
  · rw [hval.out]
    exact (HO5.out.mono RLbs.good fun _ _ h => h.1).base (by omega)
end Go.Proofs.YtegenalcheooeaaGreat

