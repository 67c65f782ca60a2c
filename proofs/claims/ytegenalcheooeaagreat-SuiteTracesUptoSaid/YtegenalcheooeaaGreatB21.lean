/- Of the proof of a law of the suites: Musts, Musts2. -/
import Derived.Test.YtegenalcheooeaaGreatB11
import Derived.Test.YtegenalcheooeaaGreatB16
import Derived.Test.YtegenalcheooeaaGreatB17
import Derived.Test.YtegenalcheooeaaGreatB19
import Derived.Test.YtegenalcheooeaaGreatB20
set_option linter.unusedSectionVars false
set_option linter.unusedSimpArgs false
set_option linter.unusedVariables false
namespace Go.Proofs.YtegenalcheooeaaGreat
open Go.RowKit
attribute [local go_sem] cell?_exto
section
set_option maxHeartbeats 1000000
set_option maxRecDepth 100000
/- suite.musts: walked. -/
open Go.Shelf

/-! ### What it comes to -/
def stepRow (a m : List Lb) : List (List Lb) := if comB m a then [m] else a.map (addL m)
def nextRaw (ls : List (List Lb)) (a : List Lb) : List (List Lb) := ls.flatMap (stepRow a)
def nextS (ls : List (List Lb)) (a : List Lb) : List (List Lb) := cmpctS (sortS (nextRaw ls a))
def tooMany (n : List (List Lb)) : Bool := decide (2000 < n.length) || n.any fun m => decide (64 < m.length)
def mustsGo : List (List Lb) → List (List Lb) → Option (List (List Lb))
 | [], ls => some ls
 | a :: bs, ls => if tooMany (nextS ls a) then none else mustsGo bs (leastS (nextS ls a))
def mustsL (s : Sy) (sts : List Int) : Option (List (List Lb)) := if sts = [] then some [] else mustsGo (cmpctS (sortS (sts.map (accL s)))) [[]]
def errO {α : Type} : Option α → Int
 | none => 2
 | some _ => 0
def rowO {α : Type} : Option (List α) → List α
 | none => []
 | some l => l
/-- What it hands back. -/
def MustPost (P : Nat → Prop) (r : Option (List (List Lb))) (w : World) (e : Ending) (w' : World) : Prop :=
 ∃ A c, e = .returned (.tuple #[.slice A (rowO r).length c, .int .i64 (errO r)]) ∧ ROwn RLbs 1 22 w.heap.size P w' (rowO r) (.slice A (rowO r).length c) ∧ Ext w w'
theorem stepRow_len (a m : List Lb) (ha : a.length ≤ 4000) : (stepRow a m).length ≤ 4000 := by
 unfold stepRow
 split
 ·simp
 ·rw [List.length_map]; exact ha
theorem nextRaw_len (a : List Lb) (ha : a.length ≤ 4000) : ∀ ls : List (List Lb), (nextRaw ls a).length ≤ ls.length * 4000
 | [] => by simp [nextRaw]
 | m :: ls => by
  have h1 := nextRaw_len a ha ls
  have h2 := stepRow_len a m ha
  unfold nextRaw at *
  rw [List.flatMap_cons, List.length_append, List.length_cons]
  omega
theorem nextRaw_take (ls : List (List Lb)) (a : List Lb) (i : Nat) (h : i < ls.length) : nextRaw (ls.take (i + 1)) a = nextRaw (ls.take i) a ++ stepRow a ls[i] := by
 rw [List.take_succ_eq_append_getElem h, nextRaw, List.flatMap_append]
 simp [nextRaw]
theorem leastS_mem (l : List (List Lb)) (x : List Lb) (h : x ∈ leastS l) : x ∈ l := (sortB_mem l x).1 (compactB_mem eqSets _ x (List.mem_filter.1 h).1)
theorem leastS_len (l : List (List Lb)) : (leastS l).length ≤ l.length := by
 have h1 := List.length_filter_le (fun a => !((cmpctS (sortS l)).any (smaller a))) (cmpctS (sortS l))
 have h2 := cmpctS_len (sortS l)
 rw [sortS_len] at h2
 exact Nat.le_trans h1 h2
theorem tooMany_no {n : List (List Lb)} (h : tooMany n = false) : n.length ≤ 2000 ∧ ∀ m ∈ n, m.length ≤ 64 := by
 simp only [tooMany, Bool.or_eq_false_iff, decide_eq_false_iff_not, List.any_eq_false, decide_eq_true_eq] at h
 exact ⟨by omega, fun m hm => by have := h.2 m hm; omega⟩

theorem eg148 : ∀ args w, (callFunc 148 args).run Tryz.prog w = .ok (.enter 148 args) w := enters_of Tryz.func148 (by kernel_rfl) rfl
theorem musts1_c (S : Nat → Prop) (m : List Lb) (u : Value) (w : World) (hm : RLbs S w m [u]) : Calls Tryz.prog 148 #[u] w fun e w' => e = .returned (.bool (decide (64 < m.length))) ∧ Ext w w' := by
 obtain ⟨A, c, rfl, _, _⟩ := hm.val
 clear hm
 go_enter Tryz.func148, Tryz.ntmps148
 go_wp2_with fail
 go_ret
 refine ⟨?_, Ext.refl _⟩
 have : decide ((64 : Int) < (m.length : Int)) = decide (64 < m.length) := decide_eq_decide.2 (by omega)
 rw [← this]
 rfl

/-- append of one set to a row of one's own. -/
theorem sets_push {P : Nat → Prop} {base : Nat} {w w' : World} {xs : List (List Lb)} {y : List Lb} {v v' u : Value} {news : List Value} (hF : Flat RLbs 1 (fun b => P b ∧ v.ownBlock ≠ some b) w xs news) (hy : RLbs (fun b => P b ∧ v.ownBlock ≠ some b) w y [u])
  (hown : w'.ownsRow base 22 1 v' (xs.length + 1) (news ++ [u])) (hg : w.grownBy w' v.ownBlock) (hat : v'.ownBlock = v.ownBlock ∨ v'.ownBlock = some w.heap.size) : ROwn RLbs 1 22 base P w' (xs ++ [y]) v' :=
 ROwn.push RLbs.good hF (Flat.single hy rfl) hown hg hat

theorem musts_c (P S : Nat → Prop) (s : Sy) (hok : okSyP s) (g : Nat) (sts : List Int) (v : Value) (w : World) (hS : IsSys P w g s) (hP : ∀ b, w.heap.size ≤ b → P b) (hl : RSl RInt 1 S w sts [v]) (hlen : sts.length ≤ 1000000) :
  Calls Tryz.prog 80 #[.pointer (some ⟨g, 0, none⟩), v] w (MustPost P (mustsL s sts) w) := by
 obtain ⟨A0, c0, rfl, _, _⟩ := hl.val
 have HS : Hid (IsSys (fun b => P b ∧ b < w.heap.size) w g s) := hS.mono fun b hb h => ⟨h, hb⟩
 have HL := Lib.hid hl
 clear hS hl
 by_cases h0 : sts = []
 ·subst h0
  have HV : Hid (mustsL s [] = some []) := rfl
  go_enter Tryz.func80, Tryz.ntmps80
  go_wp2_with fail
  go_ret2
  rw [HV.out]
  exact ⟨none, 0, rfl, ROwn.nil .., Ext.refl _⟩
 have hne : ((sts.length : Int) == 0) = false := beq_eq_false_iff_ne.2 fun e => h0 (List.length_eq_zero_iff.1 (by omega))
 have HV : Hid (mustsL s sts = mustsGo (cmpctS (sortS (sts.map (accL s)))) [[]]) := if_neg h0
 have hlb := infoLbsa
 obtain ⟨i3, hi3, hzz⟩ := Option.map_eq_some_iff.1 hlb
 simp only [Prod.mk.injEq] at hzz
 obtain ⟨hz0, hz1, hz2⟩ := hzz
 clear h0 hlb
 go_enter Tryz.func80, Tryz.ntmps80
 go_wp2_with fail
 go_loopw [6, 22] (fun vo vi wr => ∃ (k : Nat) (A : Option Addr) (c : Nat), k ≤ sts.length ∧ vi = .int .i64 k ∧ vo = .slice A k c ∧ ROwn RLbs 1 22 w.heap.size P wr ((sts.take k).map (accL s)) (.slice A k c) ∧ Ext w wr) (fun _ vi _ => sts.length - (intOf vi).toNat)
 case atStart => exact ⟨0, none, 0, Nat.zero_le _, rfl, rfl, ROwn.nil .., Ext.refl _⟩
 case round =>
  obtain ⟨k, A, c, hk, rfl, rfl, hown, hE⟩ := hrel
  by_cases hlt : k < sts.length
  ·obtain ⟨b, off, cs, rfl, hb, hT, hl, hr, hcell⟩ := ((RSl.good RInt.good).bel HL.out hE).get k hlt
   obtain ⟨rfl, hi⟩ := hr
   have g0 := (by simpa using hcell.get 0 _ : wr.cell? ⟨b, off + k, none⟩ = some (.int .i64 sts[k]))
   have hac := accepts_c (fun b => P b ∧ b < w.heap.size) s hok g sts[k] wr hi (HS.out.bel hE)
   have hkl : Hid ((sts.take k).length = k) := by show _ = _; rw [List.length_take]; omega
   have hst : Hid ((sts.take (k + 1)).map (accL s) = (sts.take k).map (accL s) ++ [accL s sts[k]]) := by show _ = _; rw [List.take_succ_eq_append_getElem hlt, List.map_append]; rfl
   have HO := Lib.hid hown
   have hob := fun q hq => hown.own_lt (b := q) hq
   clear hcell hl hT hown
   go_wp2_with fail
   refine hac.mono ?_
   rintro e w3 ⟨A3, c3, rfl, ho3, hx3⟩
   have ho4 := HO.out.ext RLbs.good (hx3.alloc (.cells #[.slice A3 (accL s sts[k]).length c3] 22))
   obtain ⟨news, hrow, hF⟩ := ho4
   have hcc := cells_new w3 #[.slice A3 (accL s sts[k]).length c3] 22
   have hy : RLbs (fun b => P b ∧ (Value.slice A k c).ownBlock ≠ some b) (w3.alloc (.cells #[.slice A3 (accL s sts[k]).length c3] 22)) (accL s sts[k]) [.slice A3 (accL s sts[k]).length c3] :=
    RLbs.good.bel (RLbs.good.mono (ho3.sl RLb.good (by decide)) fun q _ hq => ⟨hq.elim (fun h => h.1.1) fun h => hP q (by have := hE.size; omega), fun e => by
     have := hob q e
     rcases hq with h | h
     ·have h' : q < w.heap.size := h.1.2; omega
     ·omega⟩) ((Ext.refl _).alloc _)
   have HF := Lib.hid hF
   have HY := Lib.hid hy
   have hsz3 := hx3.size
   have hszE := hE.size
   rw [List.length_map, hkl.out] at hrow
   clear hF hy ho3 hac
   go_wp2_with (at_builtin; refine wpList_append_own_at _ rfl _ _ 30 rfl w.heap.size 22 i3 _ 1 24 Tryz.underlying30 hi3 hz0 hz1 hz2 rfl (by decide) _ _ _ rfl hrow ⟨w3.heap.size, 0, none⟩ 1 1 [.slice A3 (accL s sts[k]).length c3] rfl rfl hcc (by simp [Value.oneCell']) (by unfold maxLen; omega) (by omega) (by simp; omega) ?_; intro v5 w5 hown5 hgrow5 hnil5 hat5; obtain ⟨g5, c5, rfl⟩ := ownsRow_succ hown5)
   have hp5 := Lib.hid (sets_push HF.out HY.out (by rw [List.length_map, hkl.out]; exact hown5) hgrow5 hat5)
   have hX5 : Ext w w5 := Below.grown ((hE.trans' hx3).alloc _) hgrow5 (by simp; omega) fun q hq => (hob q hq).1
   clear hown5 hgrow5 hat5 hnil5 hrow hcc
   go_wp2_with fail
   go_roundw
   case rel => exact ⟨k + 1, some ⟨g5, 0, none⟩, c5, by omega, by go_num, rfl, by rw [hst.out]; exact hp5.out, hX5⟩
   case measure => simp [intOf]; omega
  ·obtain rfl : k = sts.length := by omega
   rw [List.take_length] at hown
   obtain ⟨wa, rfl⟩ : ∃ wa, wa = wr := ⟨_, rfl⟩
   obtain ⟨ac, hac⟩ : ∃ ac, sts.map (accL s) = ac := ⟨_, rfl⟩
   have hacl : ac.length = sts.length := by rw [← hac, List.length_map]
   have hace : ∀ a ∈ ac, a.length ≤ 4000 := fun a ha => by
    rw [← hac] at ha
    obtain ⟨t, _, rfl⟩ := List.mem_map.1 ha
    have := accL_len s t
    have := hok.2.2.1
    omega
   have HV2 : Hid (mustsL s sts = mustsGo (cmpctS (sortS ac)) [[]]) := by show _ = _; rw [HV.out, hac]
   rw [hac] at hown
   have hob := fun q hq => hown.own_lt (b := q) hq
   have hs := sortS_own w.heap.size _ ac _ wa hown (by omega)
   have hc1 := fun W (hW : ROwn RLbs 1 22 w.heap.size P W (sortS ac) (.slice A sts.length c)) => compactLbs_c w.heap.size _ (sortS ac) _ W hW (by rw [sortS_len]; omega)
   have HACL := Lib.hid hacl
   clear hacl hac hown HV
   go_wp2_with fail
   refine hs.mono ?_
   rintro e w1 ⟨rfl, ho1, hb1⟩
   have ho1' := ho1.ext RLbs.good ((Ext.refl w1).alloc (.cells #[.slice none 0 0] 22))
   go_wp2_with fail
   refine (hc1 _ ho1').mono ?_
   rintro e w2 ⟨A2, c2, rfl, ho2, hb2⟩
   have hz1 := hb1.size
   have hz2 := hb2.size
   simp only [World.size_alloc] at hz2
   have hlit : ROwn RLbs 1 22 w.heap.size P w2 [[]] (.slice (some ⟨w1.heap.size, 0, none⟩) 1 1) := by
    have h1 := World.ownsRow_lit (base := w.heap.size) (e := 22) (size := 1) w1 #[.slice none 0 0] 1 (by have := hE.size; omega) (by decide) rfl
    have h2 : ROwn RLbs 1 22 w.heap.size (fun _ => False) (w1.alloc (.cells #[.slice none 0 0] 22)) [[]] (.slice (some ⟨w1.heap.size, 0, none⟩) 1 1) := ⟨[.slice none 0 0], h1, [.slice none 0 0], [], rfl, rfl, ⟨none, 0, rfl, Nat.le_refl _, by decide, .inl rfl⟩, rfl⟩
    refine (h2.bt RLbs.good hb2 fun b _ hz => ⟨fun h => h, fun e => ?_⟩).mono RLbs.good fun _ _ h => h.elim
    have h3 := (hob b hz).2
    have h4 : w1.heap.size = b := by simpa [Value.ownBlock] using e
    omega
   obtain ⟨acs, hacs⟩ : ∃ acs, cmpctS (sortS ac) = acs := ⟨_, rfl⟩
   have hacn : acs.length ≤ 1000000 := by rw [← hacs]; have := cmpctS_len (sortS ac); rw [sortS_len, HACL.out] at this; omega
   have hace2 : ∀ a ∈ acs, a.length ≤ 4000 := fun a ha => hace a ((sortB_mem ac a).1 (compactB_mem eqSets _ a (by rw [← hacs] at ha; exact ha)))
   have hX2 : Ext w w2 := Bt.new (Z := fun b => w.heap.size ≤ b) hE (((hb1.mono fun b _ h => (hob b h).1).trans ((Bt.refl _ _).alloc _)).trans (hb2.mono fun b _ h => (hob b h).1)) fun _ _ h => h
   rw [hacs] at ho2 HV2 ⊢
   have HO2 := Lib.hid ho2
   have HLIT := Lib.hid hlit
   clear hacs hlit ho2 ho1 ho1' hs hc1 hb1 hb2 HACL hace hob hz1 hz2
   go_wp2_with fail
   go_loopw [9, 39] (fun vl vi wr => ∃ (k : Nat) (A : Option Addr) (c : Nat) (ls : List (List Lb)), k ≤ acs.length ∧ vi = .int .i64 k ∧ vl = .slice A ls.length c ∧ ROwn RLbs 1 22 w.heap.size P wr ls (.slice A ls.length c) ∧ ls.length ≤ 2000 ∧ (∀ m ∈ ls, m.length ≤ 64) ∧ Hid (mustsGo (acs.drop k) ls = mustsGo acs [[]]) ∧ Ext w2 wr) (fun _ vi _ => acs.length - (intOf vi).toNat)
   case atStart => exact ⟨0, some ⟨w1.heap.size, 0, none⟩, 1, [[]], Nat.zero_le _, rfl, rfl, HLIT.out, by decide, by simp, rfl, Ext.refl _⟩
   case round =>
    obtain ⟨k, A, c, ls, hk, rfl, rfl, hown, hln, hlm, hgo, hE2⟩ := hrel
    by_cases hlt : k < acs.length
    ·obtain ⟨b, off, cs, rfl, hb, hT, hl, hr, hcell⟩ := ((RSl.good RLbs.good).bel ((RSl.good RLbs.good).mono (S' := fun b => P b ∧ b < w2.heap.size) (HO2.out.sl RLbs.good (by decide)) fun b hb h => ⟨h.elim id (hP b), hb⟩) hE2).get k hlt
     obtain ⟨Aa, ca, rfl, hra0, hra1, _⟩ := id hr
     have g0 := (by simpa using hcell.get 0 _ : wr.cell? ⟨b, off + k, none⟩ = some (.slice Aa acs[k].length ca))
     have ha := hace2 _ (List.getElem_mem hlt)
     obtain ⟨a, haa⟩ : ∃ a, acs[k] = a := ⟨_, rfl⟩
     have hstep : mustsGo (acs.drop k) ls = if tooMany (nextS ls a) then none else mustsGo (acs.drop (k + 1)) (leastS (nextS ls a)) := by rw [List.drop_eq_getElem_cons hlt, mustsGo, haa]
     rw [haa] at ha hr g0
     have HST := Lib.hid hstep
     have HRA := Lib.hid hr
     have HLS := Lib.hid hown
     have hob := fun q hq => hown.own_lt (b := q) hq
     obtain ⟨wb, rfl⟩ : ∃ wb, wb = wr := ⟨_, rfl⟩
     have hwb : w.heap.size ≤ wb.heap.size := by have := hX2.size; have := hE2.size; omega
     clear hstep hr hown hcell hl hT haa
     go_wp2_with fail
     go_loopw [12, 45] (fun vn vi wr => ∃ (i : Nat) (A' : Option Addr) (c' : Nat), i ≤ ls.length ∧ vi = .int .i64 i ∧ vn = .slice A' (nextRaw (ls.take i) a).length c' ∧ ROwn RLbs 1 22 wb.heap.size P wr (nextRaw (ls.take i) a) (.slice A' (nextRaw (ls.take i) a).length c') ∧ Ext wb wr) (fun _ vi _ => ls.length - (intOf vi).toNat)
     case atStart => exact ⟨0, none, 0, Nat.zero_le _, rfl, rfl, ROwn.nil .., Ext.refl _⟩
     case round =>
      obtain ⟨i, A', c', hi, rfl, rfl, hown, hE3⟩ := hrel
      by_cases hlt3 : i < ls.length
      ·have hls2 := (RSl.good RLbs.good).mono (HLS.out.sl RLbs.good (by decide)) (S' := fun b => P b ∧ b < wb.heap.size) fun b hb h => ⟨h.elim id (hP b), hb⟩
       obtain ⟨b2, off2, cs2, rfl, hb2, hT2, hl2, hr2, hcell2⟩ := hls2.get i hlt3
       obtain ⟨Am, cm, rfl, hm0, hm1, _⟩ := id hr2
       have g2 := Ext.keep hE3 (by simpa using hcell2.get 0 _ : wb.cell? ⟨b2, off2 + i, none⟩ = some (.slice Am ls[i].length cm))
       have hml := hlm _ (List.getElem_mem hlt3)
       have hnt := nextRaw_take ls a i hlt3
       obtain ⟨m, hmm⟩ : ∃ m, ls[i] = m := ⟨_, rfl⟩
       rw [hmm] at hml hr2 g2 hnt
       have hrl := nextRaw_len a ha (ls.take i)
       rw [List.length_take, Nat.min_eq_left (by omega)] at hrl
       have HR2 := Lib.hid hr2
       have HNT := Lib.hid hnt
       have HOW := Lib.hid hown
       have hob3 := fun q hq => hown.own_lt (b := q) hq
       have hcom := common_c (fun _ => True) m a _ _ wr (RLbs.good.mono (RLbs.good.bel hr2 hE3) fun _ _ _ => trivial) (RLbs.good.mono (RLbs.good.bel HRA.out hE3) fun _ _ _ => trivial) (by omega)
       have hnr : (nextRaw (ls.take i) a).length ≤ 8000000 := by omega
       clear hr2 hnt hown hcell2 hl2 hT2 hls2 hmm hrl
       by_cases hco : comB m a = true
       ·rw [hco] at hcom
        have hst : Hid (nextRaw (ls.take (i + 1)) a = nextRaw (ls.take i) a ++ [m]) := by show _ = _; rw [HNT.out, stepRow, if_pos hco]
        clear hco
        go_wp2_with fail
        refine hcom.mono ?_
        rintro e w3 ⟨rfl, hx3⟩
        have ho4 := HOW.out.ext RLbs.good (hx3.alloc (.cells #[.slice Am m.length cm] 22))
        obtain ⟨news, hrow, hF⟩ := ho4
        have hcc := cells_new w3 #[.slice Am m.length cm] 22
        have hy : RLbs (fun b => P b ∧ (Value.slice A' (nextRaw (ls.take i) a).length c').ownBlock ≠ some b) (w3.alloc (.cells #[.slice Am m.length cm] 22)) m [.slice Am m.length cm] :=
         RLbs.good.bel (RLbs.good.mono HR2.out fun q _ hq => ⟨hq.1, fun e => by have := (hob3 q e).1; have h' : q < wb.heap.size := hq.2; omega⟩) ((hE3.trans' hx3).alloc _)
        have HF := Lib.hid hF
        have HY := Lib.hid hy
        have hsz3 := hx3.size
        have hszE := hE3.size
        clear hF hy hcom
        go_wp2_with (at_builtin; refine wpList_append_own_at _ rfl _ _ 30 rfl wb.heap.size 22 i3 _ 1 24 Tryz.underlying30 hi3 hz0 hz1 hz2 rfl (by decide) _ _ _ rfl hrow ⟨w3.heap.size, 0, none⟩ 1 1 [.slice Am m.length cm] rfl rfl hcc (by simp [Value.oneCell']) (by unfold maxLen; omega) (by omega) (by simp; omega) ?_; intro v5 w5 hown5 hgrow5 hnil5 hat5; obtain ⟨g5, c5, rfl⟩ := ownsRow_succ hown5)
        have hp5 := Lib.hid (sets_push HF.out HY.out hown5 hgrow5 hat5)
        have hX5 : Ext wb w5 := Below.grown ((hE3.trans' hx3).alloc _) hgrow5 (by simp; omega) fun q hq => (hob3 q hq).1
        clear hown5 hgrow5 hat5 hnil5 hrow hcc
        go_wp2_with fail
        go_roundw
        case rel => exact ⟨i + 1, some ⟨g5, 0, none⟩, c5, by omega, by go_num, by rw [hst.out, List.length_append]; rfl, by rw [hst.out, List.length_append]; exact hp5.out, hX5⟩
        case measure => simp [intOf]; omega
       ·rw [eq_false_of_ne_true hco] at hcom
        have hst : Hid (nextRaw (ls.take (i + 1)) a = nextRaw (ls.take i) a ++ a.map (addL m)) := by show _ = _; rw [HNT.out, stepRow, if_neg hco]
        clear hco
        obtain ⟨wc, rfl⟩ : ∃ wc, wc = wr := ⟨_, rfl⟩
        go_wp2_with fail
        refine hcom.mono ?_
        rintro e w3 ⟨rfl, hx3⟩
        have hX3 := hE3.trans' hx3
        clear hcom
        obtain ⟨rj, hrj⟩ : ∃ rj : Nat → List (List Lb), rj = fun j => nextRaw (ls.take i) a ++ (a.take j).map (addL m) := ⟨_, rfl⟩
        have hr0 : Hid (rj 0 = nextRaw (ls.take i) a) := by show _ = _; rw [hrj]; simp
        have hr1 : Hid (∀ j, (h : j < a.length) → rj (j + 1) = rj j ++ [addL m a[j]]) := by
         intro j h
         rw [hrj]
         simp only
         rw [List.take_succ_eq_append_getElem h, List.map_append, List.append_assoc]
         rfl
        have hr2 : Hid (rj a.length = nextRaw (ls.take (i + 1)) a) := by show _ = _; rw [hst.out, hrj]; simp only [List.take_length]
        have hr3 : Hid (∀ j, (rj j).length ≤ 8000000 + 4000) := by
         intro j
         rw [hrj]
         simp only [List.length_append, List.length_map, List.length_take]
         omega
        clear hrj
        go_wp2_with fail
        go_loopw [12, 58] (fun vn vi wr => ∃ (j : Nat) (A4 : Option Addr) (c4 : Nat), j ≤ a.length ∧ vi = .int .i64 j ∧ vn = .slice A4 (rj j).length c4 ∧ ROwn RLbs 1 22 wb.heap.size P wr (rj j) (.slice A4 (rj j).length c4) ∧ Ext wb wr) (fun _ vi _ => a.length - (intOf vi).toNat)
        case atStart => exact ⟨0, A', c', Nat.zero_le _, rfl, by rw [hr0.out], by rw [hr0.out]; exact HOW.out.ext RLbs.good hx3, hX3⟩
        case round =>
         obtain ⟨j, A4, c4, hj, rfl, rfl, hown4, hE4⟩ := hrel
         have hlj := hr3.out j
         by_cases hlt4 : j < a.length
         ·obtain ⟨b5, off5, cs5, rfl, hb5, hT5, hl5, hr5, hcell5⟩ := (RLbs.good.bel HRA.out hE4).get j hlt4
          obtain ⟨hxi, vx, rfl, hvx⟩ := id hr5
          have a0 := hcell5.get 0 _
          have a1 := hcell5.get 1 _
          simp only [Nat.add_zero] at a0
          obtain ⟨Ax, cx, rfl, _, _⟩ := hvx.val
          have hst4 := Lib.hid (hr1.out j hlt4)
          obtain ⟨x, hxx⟩ : ∃ x, a[j] = x := ⟨_, rfl⟩
          rw [hxx] at hr5 a0 a1
          have HST4 : Hid (rj (j + 1) = rj j ++ [addL m x]) := by show _ = _; rw [hst4.out, hxx]
          have hw2b : w2.heap.size ≤ wb.heap.size := hE2.size
          have had := added_c (fun b => P b ∧ b < wb.heap.size) m x (.slice Am m.length cm) (.slice Ax x.v.length cx) (wr.alloc (.cells #[.int .i64 x.g, .slice Ax x.v.length cx] 61))
           (RLbs.good.bel HR2.out (hE4.alloc _)) (RLb.good.bel (RLb.good.mono hr5 fun q _ hq => ⟨hq.1, Nat.lt_of_lt_of_le hq.2 hw2b⟩) ((Ext.refl _).alloc _)) (by omega)
          have hob4 := fun q hq => hown4.own_lt (b := q) hq
          have HOW4 := Lib.hid hown4
          clear hcell5 hl5 hT5 hr5 hvx hst4 hown4
          clear hxx
          go_wp2_with fail
          refine had.mono ?_
          rintro e w6 ⟨A6, c6, rfl, ho6, hx6⟩
          have hx6' := Ext.trans' ((Ext.refl wr).alloc _) hx6
          have ho7 := HOW4.out.ext RLbs.good (hx6'.alloc (.cells #[.slice A6 (addL m x).length c6] 22))
          obtain ⟨news, hrow, hF⟩ := ho7
          have hcc := cells_new w6 #[.slice A6 (addL m x).length c6] 22
          have hsz6 := hx6'.size
          have hszE := hE4.size
          have hszE3 := hE3.size
          have hy : RLbs (fun b => P b ∧ (Value.slice A4 (rj j).length c4).ownBlock ≠ some b) (w6.alloc (.cells #[.slice A6 (addL m x).length c6] 22)) (addL m x) [.slice A6 (addL m x).length c6] :=
           RLbs.good.bel (RLbs.good.mono (ho6.sl RLb.good (by decide)) fun q _ hq => ⟨hq.elim (fun h => h.1.1) fun h => hP q (by simp at h; omega), fun e => by
            have := hob4 q e
            rcases hq with h | h
            ·have h' : q < wb.heap.size := h.1.2; omega
            ·simp at h; omega⟩) ((Ext.refl _).alloc _)
          have HF := Lib.hid hF
          have HY := Lib.hid hy
          clear hF hy had ho6
          go_wp2_with (at_builtin; refine wpList_append_own_at _ rfl _ _ 30 rfl wb.heap.size 22 i3 _ 1 24 Tryz.underlying30 hi3 hz0 hz1 hz2 rfl (by decide) _ _ _ rfl hrow ⟨w6.heap.size, 0, none⟩ 1 1 [.slice A6 (addL m x).length c6] rfl rfl hcc (by simp [Value.oneCell']) (by unfold maxLen; omega) (by omega) (by simp; omega) ?_; intro v8 w8 hown8 hgrow8 hnil8 hat8; obtain ⟨g8, c8, rfl⟩ := ownsRow_succ hown8)
          have hp8 := Lib.hid (sets_push HF.out HY.out hown8 hgrow8 hat8)
          have hX8 : Ext wb w8 := Below.grown ((hE4.trans' hx6').alloc _) hgrow8 (by simp; omega) fun q hq => (hob4 q hq).1
          clear hown8 hgrow8 hat8 hnil8 hrow hcc
          go_wp2_with fail
          go_roundw
          case rel => exact ⟨j + 1, some ⟨g8, 0, none⟩, c8, by omega, by go_num, by rw [HST4.out, List.length_append]; rfl, by rw [HST4.out, List.length_append]; exact hp8.out, hX8⟩
          case measure => simp [intOf]; omega
         ·obtain rfl : j = a.length := by omega
          rw [hr2.out] at hown4
          have hr4 := Lib.hid hr2
          have HOW4 := Lib.hid hown4
          clear hown4
          go_wp2_with fail
          go_roundw
          case rel => exact ⟨i + 1, A4, c4, by omega, by go_num, by rw [hr4.out.out], HOW4.out, hE4⟩
          case measure => simp [intOf]; omega
      ·obtain rfl : i = ls.length := by omega
       rw [List.take_length] at hown ⊢
       have hob3 := fun q hq => hown.own_lt (b := q) hq
       have hrl := nextRaw_len a ha ls
       have hnr : (nextRaw ls a).length ≤ 8000000 := by omega
       obtain ⟨nr, hnre⟩ : ∃ nr, nextRaw ls a = nr := ⟨_, rfl⟩
       have hns : Hid (nextS ls a = cmpctS (sortS nr)) := by show _ = _; rw [nextS, hnre]
       rw [hnre] at hown hob3 hnr ⊢
       clear hrl hnre
       have hs := sortS_own wb.heap.size _ nr _ wr hown (by omega)
       have hc1 := fun W (hW : ROwn RLbs 1 22 wb.heap.size P W (sortS nr) (.slice A' nr.length c')) => compactLbs_c wb.heap.size _ (sortS nr) _ W hW (by rw [sortS_len]; omega)
       obtain ⟨n, hn⟩ : ∃ n, cmpctS (sortS nr) = n := ⟨_, rfl⟩
       rw [hn] at hc1
       have HN : Hid (nextS ls a = n) := by show _ = _; rw [hns.out, hn]
       clear hn hown hns
       go_wp2_with fail
       refine hs.mono ?_
       rintro e w3 ⟨rfl, ho3, hb3⟩
       go_wp2_with fail
       refine (hc1 _ ho3).mono ?_
       rintro e w4 ⟨A4, c4, rfl, ho4, hb4⟩
       have hX4 : Ext wb w4 := Bt.new (Z := fun b => wb.heap.size ≤ b) hE3 ((hb3.mono fun b _ h => (hob3 b h).1).trans (hb4.mono fun b _ h => (hob3 b h).1)) fun _ _ h => h
       have hXw4 : Ext w w4 := hX2.trans' (hE2.trans' hX4)
       have hcon := conPLbs (fun m => decide (64 < m.length)) (fun _ => True) w4 n _ ((RSl.good RLbs.good).mono (ho4.sl RLbs.good (by decide)) fun _ _ _ => trivial) 148 #[] eg148 (fun m hm cs W hW hr => by
        obtain ⟨Am, cm, rfl, _⟩ := id hr
        exact musts1_c _ m _ W hr)
       have HO4 := Lib.hid ho4
       clear ho4 ho3 hb3 hb4 hs hc1
       by_cases hbig : 2000 < n.length
       ·have hz := decide_eq_true (show (2000 : Int) < (n.length : Int) by omega)
        have HF : Hid (mustsL s sts = none) := by show _ = _; rw [HV2.out, ← hgo.out, HST.out, HN.out, if_pos (by simp [tooMany, hbig])]
        clear hcon
        go_wp2_with fail
        go_ret2
        rw [HF.out]
        exact ⟨none, 0, rfl, ROwn.nil .., hXw4⟩
       have hz := decide_eq_false (show ¬ (2000 : Int) < (n.length : Int) by omega)
       by_cases hany : (n.any fun m => decide (64 < m.length)) = true
       ·have HF : Hid (mustsL s sts = none) := by show _ = _; rw [HV2.out, ← hgo.out, HST.out, HN.out, if_pos (by simp only [tooMany, hany, Bool.or_true])]
        rw [hany] at hcon
        clear hany
        go_wp2_with fail
        refine hcon.mono ?_
        rintro e w5 ⟨rfl, hx5⟩
        go_wp2_with fail
        go_ret2
        rw [HF.out]
        exact ⟨none, 0, rfl, ROwn.nil .., hXw4.trans' hx5⟩
       ·have htm : tooMany n = false := by simp only [tooMany, eq_false_of_ne_true hany, decide_eq_false hbig, Bool.or_false]
        have hok2 := tooMany_no htm
        have hgo2 : Hid (mustsGo (acs.drop (k + 1)) (leastS n) = mustsGo acs [[]]) := by show _ = _; rw [← hgo.out, HST.out, HN.out, if_neg (by rw [htm]; decide)]
        rw [eq_false_of_ne_true hany] at hcon
        clear hany htm
        go_wp2_with fail
        refine hcon.mono ?_
        rintro e w5 ⟨rfl, hx5⟩
        have ho5 := HO4.out.ext RLbs.good hx5
        have hob5 := fun q hq => ho5.own_lt (b := q) hq
        have hle := least_c P wb.heap.size (fun b hb => hP b (by omega)) n _ w5 ho5 (by have := hX4.size; have := hx5.size; omega) (by omega) (fun m hm => Nat.le_trans (hok2.2 m hm) (by decide))
        clear ho5 hcon
        go_wp2_with fail
        refine hle.mono ?_
        rintro e w6 ⟨A6, c6, rfl, ho6, hb6⟩
        have hX6 : Ext wb w6 := Bt.new (hX4.trans' hx5) hb6 fun b _ h => (hob5 b h).1
        have HO6 := Lib.hid ho6
        have hll := leastS_len n
        have hz5 : w.heap.size ≤ w5.heap.size := by have := hXw4.size; have := hx5.size; omega
        clear ho6 hle hb6
        go_wp2_with fail
        go_roundw
        case rel => exact ⟨k + 1, A6, c6, leastS n, by omega, by go_num, rfl, HO6.out.base hz5, by omega, fun m hm => hok2.2 m (leastS_mem n m hm), hgo2.out, hE2.trans' hX6⟩
        case measure => simp [intOf]; omega
    ·obtain rfl : k = acs.length := by omega
     have hfin : Hid (mustsL s sts = some ls) := by show _ = _; rw [HV2.out, ← hgo.out, List.drop_length, mustsGo]
     have HO := Lib.hid hown
     clear hown
     go_wp2_with fail
     go_ret2
     rw [hfin.out]
     exact ⟨A, c, rfl, HO.out, hX2.trans' hE2⟩
end
section
open Go.Shelf

theorem accFrom_mem (p : Int → Bool) : ∀ (i : Nat) (xs : List Lb) (x : Lb), x ∈ accFrom p i xs → x ∈ xs
 | _, [], x, h => h
 | i, y :: ys, x, h => by
  rw [accFrom] at h
  split at h
  ·rcases List.mem_cons.1 h with rfl | h
   ·simp
   ·exact List.mem_cons_of_mem _ (accFrom_mem p (i + 1) ys x h)
  ·exact List.mem_cons_of_mem _ (accFrom_mem p (i + 1) ys x h)
theorem addL_mem (l : List Lb) (x y : Lb) (h : y ∈ addL l x) : y ∈ l ∨ y = x := by
 simp only [addL, List.mem_append, List.mem_singleton] at h
 rcases h with (h | h) | h
 ·exact .inl (List.mem_of_mem_take h)
 ·exact .inr h
 ·exact .inl (List.mem_of_mem_drop h)
/-- All labels are the system's. -/
def Sub (s : Sy) (ls : List (List Lb)) : Prop := ∀ m ∈ ls, ∀ x ∈ m, x ∈ s.ls
theorem nextS_sub {s : Sy} {ls : List (List Lb)} {a : List Lb} (h : Sub s ls) (ha : ∀ x ∈ a, x ∈ s.ls) : Sub s (nextS ls a) := fun m hm x hx => by
 have h1 := (sortB_mem (nextRaw ls a) m).1 (compactB_mem eqSets _ m hm)
 obtain ⟨m', hm', hmm⟩ := List.mem_flatMap.1 h1
 unfold stepRow at hmm
 split at hmm
 ·rw [List.mem_singleton.1 hmm] at hx
  exact h m' hm' x hx
 ·obtain ⟨y, hy, rfl⟩ := List.mem_map.1 hmm
  rcases addL_mem m' y x hx with h2 | rfl
  ·exact h m' hm' x h2
  ·exact ha _ hy
theorem mustsGo_sub {s : Sy} : ∀ {bs ls : List (List Lb)} {r : List (List Lb)}, Sub s bs → Sub s ls → mustsGo bs ls = some r → Sub s r
 | [], ls, r, _, h, e => by rw [mustsGo] at e; injection e with e; rw [← e]; exact h
 | a :: bs, ls, r, hb, h, e => by
  rw [mustsGo] at e
  split at e
  ·cases e
  ·exact mustsGo_sub (fun m hm => hb m (List.mem_cons_of_mem _ hm)) (fun m hm => nextS_sub h (hb a (List.mem_cons_self ..)) m (leastS_mem _ m hm)) e
theorem mustsL_sub (s : Sy) (sts : List Int) : Sub s (rowO (mustsL s sts)) := by
 cases h : mustsL s sts with
 | none => intro m hm; simp [rowO] at hm
 | some r =>
  unfold mustsL at h
  split at h
  ·injection h with h
   subst h
   intro m hm
   simp [rowO] at hm
  ·refine mustsGo_sub (fun m hm x hx => ?_) (fun m hm x hx => ?_) h
   ·obtain ⟨t, _, rfl⟩ := List.mem_map.1 ((sortB_mem _ m).1 (compactB_mem eqSets _ m hm))
    exact accFrom_mem _ _ _ x hx
   ·rw [List.mem_singleton.1 hm] at hx
    simp at hx
theorem mustsL_len (s : Sy) (sts : List Int) : (rowO (mustsL s sts)).length ≤ 2000 ∧ ∀ m ∈ rowO (mustsL s sts), m.length ≤ 64 := by
 have go : ∀ (bs ls r : List (List Lb)), ls.length ≤ 2000 → (∀ m ∈ ls, m.length ≤ 64) → mustsGo bs ls = some r → r.length ≤ 2000 ∧ ∀ m ∈ r, m.length ≤ 64 := by
  intro bs
  induction bs with
  | nil => intro ls r h1 h2 e; rw [mustsGo] at e; injection e with e; rw [← e]; exact ⟨h1, h2⟩
  | cons a bs ih =>
   intro ls r h1 h2 e
   rw [mustsGo] at e
   split at e
   ·cases e
   ·rename_i ht
    have h3 := tooMany_no (eq_false_of_ne_true ht)
    exact ih _ r (Nat.le_trans (leastS_len _) h3.1) (fun m hm => h3.2 m (leastS_mem _ m hm)) e
 cases h : mustsL s sts with
 | none => simp [rowO]
 | some r =>
  unfold mustsL at h
  split at h
  ·injection h with h
   subst h
   simp [rowO]
  ·exact go _ _ r (by decide) (by simp) h
/-- No label is vast. -/
def SmallSy (s : Sy) : Prop := ∀ x ∈ s.ls, x.size ≤ 1000000000

open Classical in
/-- suite.Musts -/
noncomputable def mustE (s : Sy) (tr : List Lb) : Int := if okSyP s then (if isTraceB tr then errO (mustsL s (afterL s tr)) else 1) else 8
open Classical in
noncomputable def mustR (s : Sy) (tr : List Lb) : List (List Lb) := if okSyP s ∧ isTraceB tr = true then rowO (mustsL s (afterL s tr)) else []
def TupPost {α : Type} (R : Rdr α) (k : Nat) (t : TypeId) (r : List α) (err : Int) (w : World) (e : Ending) (w' : World) : Prop :=
 ∃ A c, e = .returned (.tuple #[.slice A r.length c, .int .i64 err]) ∧ ROwn R k t w.heap.size (fun _ => True) w' r (.slice A r.length c) ∧ Ext w w'
set_option maxHeartbeats 1000000 in
set_option maxRecDepth 100000 in
theorem Musts_c (S : Nat → Prop) (s : Sy) (hsm : SmallSy s) (cs : List Value) (tr : List Lb) (v : Value) (w : World) (hx : RSy S w s cs) (ht : RLbs S w tr [v]) :
  Calls Tryz.prog 18 #[.agg cs.toArray, v] w (TupPost RLbs 1 22 (mustR s tr) (mustE s tr) w) := by
 have htc := fun W (hW : Ext w W) => isTrace_c S tr v W (RLbs.good.bel ht hW)
 obtain ⟨_, vl, ve, rfl, hvl, hve⟩ := id hx
 obtain ⟨Al, cl, rfl, _, _⟩ := hvl.val
 obtain ⟨Ae, ce, rfl, _, _⟩ := hve.val
 obtain ⟨A, c, rfl, hc, hc0⟩ := ht.val
 have HX := Lib.hid hx
 have HT := Lib.hid ht
 clear hx ht hvl hve
 by_cases hok : okSyP s
 case neg =>
  have hcon := fun W (hW : Ext w W) => newSystem_no S s _ W (RSy.good.bel HX.out hW) hok
  have HV := Lib.hid (And.intro (show mustE s tr = 8 from if_neg hok) (show mustR s tr = [] from if_neg fun h => hok h.1))
  go_enter Tryz.func18, Tryz.ntmps18
  go_wp2_with fail
  refine (hcon _ bel).mono ?_
  rintro e w1 ⟨rfl, h1⟩
  go_wp2_with fail
  go_ret2
  rw [HV.out.1, HV.out.2]
  exact ⟨none, 0, rfl, ROwn.nil .., bel⟩
 have hcon := fun W (hW : Ext w W) => newSystem_ok S s _ W (RSy.good.bel HX.out hW) hok
 by_cases htr : isTraceB tr = true
 case neg =>
  rw [eq_false_of_ne_true htr] at htc
  have HV := Lib.hid (And.intro (show mustE s tr = 1 from by rw [mustE, if_pos hok, if_neg htr]) (show mustR s tr = [] from if_neg fun h => htr h.2))
  go_enter Tryz.func18, Tryz.ntmps18
  go_wp2_with fail
  refine (hcon _ bel).mono ?_
  rintro e w1 ⟨g, rfl, h1, hg, hS⟩
  go_wp2_with fail
  refine (htc _ bel).mono ?_
  rintro e w2 ⟨rfl, h2⟩
  go_wp2_with fail
  go_ret2
  rw [HV.out.1, HV.out.2]
  exact ⟨none, 0, rfl, ROwn.nil .., bel⟩
 rw [htr] at htc
 have HV := Lib.hid (And.intro (show mustE s tr = errO (mustsL s (afterL s tr)) from by rw [mustE, if_pos hok, if_pos htr]) (show mustR s tr = rowO (mustsL s (afterL s tr)) from if_pos ⟨hok, htr⟩))
 have hlen : tr.length ≤ 4611686018427387903 := by simp [isTraceB] at htr; omega
 have hac := fun W g (hg : IsSys (fun _ => True) W g s) (hW : Ext w W) => after_c (fun _ => True) s hok g tr _ W hg (RLbs.good.bel (RLbs.good.mono HT.out fun _ _ _ => trivial) hW) hlen
 have hal : (afterL s tr).length ≤ 1000000 := by have := afterL_len s tr; have := hok.2.2.2.1; omega
 have hmc := fun W g vs (hg : IsSys (fun _ => True) W g s) (hv : RSl RInt 1 (fun _ => True) W (afterL s tr) [vs]) => musts_c (fun _ => True) (fun _ => True) s hok g (afterL s tr) vs W hg (fun _ _ => trivial) hv hal
 obtain ⟨r, hr⟩ : ∃ r, mustsL s (afterL s tr) = r := ⟨_, rfl⟩
 have hsub := mustsL_sub s (afterL s tr)
 have hml := mustsL_len s (afterL s tr)
 rw [hr] at HV hmc hsub hml
 clear hlen htr hal hr
 go_enter Tryz.func18, Tryz.ntmps18
 go_wp2_with fail
 refine (hcon _ bel).mono ?_
 rintro e w1 ⟨g, rfl, h1, hg, hS⟩
 have HS := Lib.hid hS
 clear hS
 go_wp2_with fail
 refine (htc _ bel).mono ?_
 rintro e w2 ⟨rfl, h2⟩
 go_wp2_with fail
 refine (hac _ g ((HS.out.mono fun _ _ _ => trivial).bel bel) bel).mono ?_
 rintro e w3 h3'
 obtain ⟨A3, c3, rfl, ho3, h3⟩ := h3'.at (b' := w.heap.size) (by have := h1.size; have := h2.size; simp at *; omega)
 have HO := Lib.hid ho3
 clear ho3 h3'
 go_wp2_with fail
 refine (hmc _ g _ ((HS.out.mono fun _ _ _ => trivial).bel bel) ((RSl.good RInt.good).mono ((RSl.good RInt.good).bel (HO.out.sl RInt.good (by decide)) bel) fun _ _ _ => trivial)).mono ?_
 rintro e w4 ⟨A4, c4, rfl, ho4, h4⟩
 have hX4 : Ext w w4 := bel
 have hz3 : w.heap.size ≤ w3.heap.size := by have := h1.size; have := h2.size; have := h3.size; simp at *; omega
 have HO4 := Lib.hid (ho4.base hz3)
 obtain ⟨l, hl⟩ : ∃ l, rowO r = l := ⟨_, rfl⟩
 rw [hl] at hsub hml HO4 HV ⊢
 clear ho4 hl HS HO h1 h2 h3 h4 hg hz3
 go_wp2_with fail
 go_loopw [31] (fun vi wr => ∃ k : Nat, k ≤ l.length ∧ vi = .int .i64 k ∧ ROwn RLbs 1 22 w.heap.size (fun _ => True) wr l (.slice A4 l.length c4) ∧ Ext w wr) (fun vi _ => l.length - (intOf vi).toNat)
 case atStart => exact ⟨0, Nat.zero_le _, rfl, HO4.out, hX4⟩
 case round =>
  obtain ⟨k, hk, rfl, hown, hE⟩ := hrel
  by_cases hlt : k < l.length
  ·obtain ⟨news, hrow, _⟩ := id hown
   obtain ⟨g2, cap, he⟩ := Joins.ownsRow_form hrow (by omega)
   injection he with he1 _ he2
   subst he1 he2
   have hgb := own_row_base hrow g2 rfl
   obtain ⟨u, gc, hr1, gf⟩ := hown.get1 k hlt
   have hcp := copied_c (fun b => True ∧ b ≠ g2) l[k] u wr hr1 (fun x hx => hsm x (hsub _ (List.getElem_mem hlt) x hx)) (by have := hml.2 _ (List.getElem_mem hlt); omega)
   obtain ⟨Au, cu, rfl, _, _⟩ := hr1.val
   have HOW := Lib.hid hown
   clear hrow hr1 hown
   go_wp2_with fail
   refine hcp.mono ?_
   rintro e w5 ⟨A5, c5, rfl, hr5, hx5⟩
   have gc5 := Ext.keep hx5 gc
   have gf5 := ext_fz hx5 (World.block_lt_of_cell? wr _ gc) gf
   have hsz5 := hx5.size
   have hput := ROwn.put1 RLbs.good (HOW.out.ext RLbs.good hx5) rfl k (.slice A5 l[k].length c5) l[k] hlt (RLbs.good.mono hr5 fun b _ hb => ⟨trivial, by
    rcases hb with h | h
    ·exact h.1.2
    ·omega⟩)
   rw [List.set_getElem_self] at hput
   have HP := Lib.hid hput
   clear hput hr5 hcp gc
   go_wp2_with fail
   go_roundw
   case rel => exact ⟨k + 1, by omega, by go_num, HP.out, (hE.trans' hx5).set hgb.1 _⟩
   case measure => simp [intOf]; omega
  ·have HOW := Lib.hid hown
   clear hown
   go_wp2_with fail
   go_ret2
   rw [HV.out.1, HV.out.2]
   exact ⟨A4, c4, rfl, HOW.out, hE⟩
end
end Go.Proofs.YtegenalcheooeaaGreat
