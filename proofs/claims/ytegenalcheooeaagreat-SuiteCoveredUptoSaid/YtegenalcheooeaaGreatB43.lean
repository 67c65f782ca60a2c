/- Of the proof of a law of the suites: Gen. -/
import Derived.Test.YtegenalcheooeaaGreatB42
/- suite.generate, Generate: walked. -/
set_option linter.unusedSectionVars false
set_option linter.unusedSimpArgs false
set_option linter.unusedVariables false
namespace Go.Proofs.YtegenalcheooeaaGreat
open Go.RowKit
attribute [local go_sem] cell?_exto
open Go.Shelf

theorem plNext_ok (s : Sy) (k : Nat) (lev : List Pl) (h : ∀ p ∈ lev, p.tr.length ≤ k ∧ (∀ x ∈ p.tr, x ∈ s.ls) ∧ p.st.length ≤ s.es.length + 1) : ∀ p ∈ plNext s lev, p.tr.length ≤ k + 1 ∧ (∀ x ∈ p.tr, x ∈ s.ls) ∧ p.st.length ≤ s.es.length + 1 := fun p hp => by
  obtain ⟨q, hq, hp⟩ := List.mem_flatMap.1 hp
  obtain ⟨x, hx, hp⟩ := List.mem_flatMap.1 hp
  unfold plOne at hp
  split at hp
  · rw [List.mem_singleton.1 hp]
    obtain ⟨h1, h2, _⟩ := h q hq
    have h3 := behL_len s x q.st
    refine ⟨by simp only [List.length_append, List.length_cons, List.length_nil]; omega, fun y hy => ?_, by show (behL s x q.st).length ≤ _; omega⟩
    rcases List.mem_append.1 hy with hy | hy
    · exact h2 y hy
    · rw [List.mem_singleton.1 hy]; exact hx
  · simp at hp
theorem placesGo_ok (s : Sy) : ∀ (d k : Nat) (out lev r : List Pl), (∀ p ∈ out, p.tr.length ≤ k ∧ (∀ x ∈ p.tr, x ∈ s.ls) ∧ p.st.length ≤ s.es.length + 1) → (∀ p ∈ lev, p.tr.length ≤ k ∧ (∀ x ∈ p.tr, x ∈ s.ls) ∧ p.st.length ≤ s.es.length + 1) → out.length ≤ 4000 → placesGo s d out lev = some r →
    (∀ p ∈ r, p.tr.length ≤ k + d ∧ (∀ x ∈ p.tr, x ∈ s.ls) ∧ p.st.length ≤ s.es.length + 1) ∧ r.length ≤ 4000
  | 0, k, out, lev, r, h, _, hl, e => by rw [placesGo] at e; injection e with e; rw [← e]; exact ⟨h, hl⟩
  | d + 1, k, out, lev, r, h, h', hl, e => by
    rw [placesGo] at e
    split at e
    · cases e
    · rename_i hn
      have h1 := plNext_ok s k lev h'
      have h2 := placesGo_ok s d (k + 1) _ _ r (fun p hp => by
        rcases List.mem_append.1 hp with hp | hp
        · have := h p hp; exact ⟨by omega, this.2⟩
        · exact h1 p hp) h1 (by rw [List.length_append]; omega) e
      exact ⟨fun p hp => by have := h2.1 p hp; exact ⟨by omega, this.2⟩, h2.2⟩
theorem placesL_ok (s : Sy) (d : Nat) : (∀ p ∈ rowO (placesL s d), p.tr.length ≤ d ∧ (∀ x ∈ p.tr, x ∈ s.ls) ∧ p.st.length ≤ s.es.length + 1) ∧ (rowO (placesL s d)).length ≤ 4000 := by
  cases h : placesL s d with
  | none => simp [rowO]
  | some r =>
    have h0 : ∀ p ∈ [(⟨[], calmL s [0]⟩ : Pl)], p.tr.length ≤ 0 ∧ (∀ x ∈ p.tr, x ∈ s.ls) ∧ p.st.length ≤ s.es.length + 1 := fun p hp => by
      rw [List.mem_singleton.1 hp]
      have h1 := calmL_len s [0]
      have := calmPot_le s [0]
      simp only [List.length_cons, List.length_nil] at h1
      exact ⟨Nat.le_refl _, by simp, by show (calmL s [0]).length ≤ _; omega⟩
    have := placesGo_ok s d 0 _ _ r h0 h0 (by simp) h
    simpa [rowO] using this

/-! ### What it comes to -/
def genGo (s : Sy) : List Pl → List Te → Option (List Te)
  | [], out => some out
  | p :: ps, out => match mustsL s p.st with
    | none => none
    | some ms => if 4000 < (out ++ ms.map (Te.mk p.tr)).length then none else genGo s ps (out ++ ms.map (Te.mk p.tr))
def generateL (s : Sy) (d : Nat) : Option (List Te) := match placesL s d with
  | none => none
  | some pls => genGo s pls []
theorem infoTea : (Tryz.prog.info? 40).map (fun i => (i.zero, i.size, i.bytes)) = some (some (.agg #[.slice none 0 0, .slice none 0 0]), 2, 48) := by kernel_rfl
set_option maxHeartbeats 1000000 in
set_option maxRecDepth 100000 in
theorem generate_c (S : Nat → Prop) (s : Sy) (hok : okSyP s) (hsm : SmallSy s) (g : Nat) (d : Nat) (w : World) (hS : IsSys S w g s) (hd : d ≤ 8) :
    Calls Tryz.prog 88 #[.pointer (some ⟨g, 0, none⟩), .int .i64 (d : Int)] w (TupPost RTe 2 40 (rowO (generateL s d)) (errO (generateL s d)) w) := by
  have HS : Hid (IsSys (fun b => b < w.heap.size) w g s) := hS.mono fun b hb _ => hb
  have hpl := places_c S s hok g d w hS hd
  have hpo := placesL_ok s d
  clear hS
  cases hp : placesL s d with
  | none =>
    have HV : Hid (generateL s d = none) := by show _ = _; rw [generateL, hp]
    rw [hp] at hpl
    replace hpl : Calls Tryz.prog 160 #[.pointer (some ⟨g, 0, none⟩), .int .i64 (d : Int)] w fun e w' => ∃ A c, e = .returned (.tuple #[.slice A 0 c, .int .i64 2]) ∧ RSlX RPl 2 (fun _ => True) w' [] (.slice A 0 c) ∧ Ext w w' := hpl.mono fun _ _ h => h
    clear hp hpo
    go_enter Tryz.func88, Tryz.ntmps88
    go_wp2_with fail
    refine hpl.mono ?_
    rintro e w1 ⟨A1, c1, rfl, hr1, hx1⟩
    go_wp2_with fail
    go_ret2
    rw [HV.out]
    exact ⟨none, 0, rfl, ROwn.nil .., hx1⟩
  | some pls =>
    have HV : Hid (generateL s d = genGo s pls []) := by show _ = _; rw [generateL, hp]
    rw [hp] at hpl hpo
    replace hpl : Calls Tryz.prog 160 #[.pointer (some ⟨g, 0, none⟩), .int .i64 (d : Int)] w fun e w' => ∃ A c, e = .returned (.tuple #[.slice A pls.length c, .int .i64 0]) ∧ RSlX RPl 2 (fun _ => True) w' pls (.slice A pls.length c) ∧ Ext w w' := hpl.mono fun _ _ h => h
    simp only [rowO] at hpo
    obtain ⟨i3, hi3, hzz⟩ := Option.map_eq_some_iff.1 infoTea
    simp only [Prod.mk.injEq] at hzz
    obtain ⟨hz0, hz1, hz2⟩ := hzz
    clear hp
    go_enter Tryz.func88, Tryz.ntmps88
    go_wp2_with fail
    refine hpl.mono ?_
    rintro e wl ⟨A1, c1, rfl, hr1, hx1⟩
    have HPL := Lib.hid hr1
    have hgl : g < w.heap.size := by obtain ⟨_, _, _, _, h1, _⟩ := HS.out.ex; exact (Array.getElem?_eq_some_iff.1 h1).1
    clear hr1 hpl
    go_wp2_with fail
    go_loopw [8, 26] (fun vo vi wr => ∃ (i : Nat) (out : List Te) (A : Option Addr) (c : Nat), i ≤ pls.length ∧ vi = .int .i64 i ∧ vo = .slice A out.length c ∧ ROwn RTe 2 40 wl.heap.size (fun _ => True) wr out (.slice A out.length c) ∧ Hid (out.length ≤ 4000 ∧ genGo s (pls.drop i) out = genGo s pls []) ∧ Ext wl wr) (fun _ vi _ => pls.length - (intOf vi).toNat)
    case atStart => exact ⟨0, [], none, 0, Nat.zero_le _, rfl, rfl, ROwn.nil .., ⟨by simp, rfl⟩, Ext.refl _⟩
    case round =>
      obtain ⟨i, out, A, c, hi, rfl, rfl, hown, hgo, hE⟩ := hrel
      by_cases hlt : i < pls.length
      · obtain ⟨b, off, cs, rfl, hb, hl, hr, hcell⟩ := HPL.out.get i hlt
        obtain ⟨tp, sp, rfl, htp, hsp⟩ := id hr
        have a0 := Ext.keep hE (hcell.get 0 _)
        have a1 := Ext.keep hE (hcell.get 1 _)
        simp only [Nat.add_zero] at a0
        have hpf := hpo.1 _ (List.getElem_mem hlt)
        have hgs := hgo.out.2
        rw [List.drop_eq_getElem_cons hlt] at hgs
        obtain ⟨p, hp⟩ : ∃ p, pls[i] = p := ⟨_, rfl⟩
        rw [hp] at hpf htp hsp hgs
        have hob := fun q hq => hown.own_lt (b := q) hq
        have hwl := hx1.size
        have hszE := hE.size
        have hmc := fun W (hW : Ext wr W) vs (hv : RSl RInt 1 (fun _ => True) W p.st [vs]) => musts_c (fun b => (Value.slice A out.length c).ownBlock ≠ some b) (fun _ => True) s hok g p.st vs W ((HS.out.bel (hx1.trans' (hE.trans' hW))).mono fun q _ hq e => by have := (hob q e).1; omega) (fun q hq e => by have := (hob q e).2; have := hW.size; omega) hv (by have := hpf.2.2; have := hok.2.2.2.1; omega)
        obtain ⟨At, ct, rfl, _, _⟩ := htp.val
        obtain ⟨As, cst, rfl, _, _⟩ := hsp.val
        have HO := Lib.hid hown
        have HSP := Lib.hid ((RSl.good RInt.good).bel hsp hE)
        have HTP : Hid (RLbs (fun b => b < wl.heap.size) wl p.tr [.slice At p.tr.length ct]) := RLbs.good.mono htp fun b hb _ => hb
        clear hr htp hsp hl hcell hp hown
        cases hm : mustsL s p.st with
        | none =>
          have HF : Hid (generateL s d = none) := by show _ = _; rw [HV.out, ← hgs, genGo, hm]
          rw [hm] at hmc
          have hmc2 : ∀ W, Ext wr W → ∀ vs, RSl RInt 1 (fun _ => True) W p.st [vs] → Calls Tryz.prog 80 #[.pointer (some ⟨g, 0, none⟩), vs] W fun e w' => ∃ A' c', e = .returned (.tuple #[.slice A' 0 c', .int .i64 2]) ∧ ROwn RLbs 1 22 W.heap.size (fun b => (Value.slice A out.length c).ownBlock ≠ some b) w' [] (.slice A' 0 c') ∧ Ext W w' := fun W hW vs hv => (hmc W hW vs hv).mono fun _ _ h => h
          clear hgs hm hmc
          go_wp2_with fail
          refine (hmc2 _ ((Ext.refl _).alloc _) _ ((RSl.good RInt.good).bel HSP.out ((Ext.refl _).alloc _))).mono ?_
          rintro e w2 ⟨A2, c2, rfl, hr2, hx2⟩
          go_wp2_with fail
          go_ret2
          rw [HF.out]
          exact ⟨none, 0, rfl, ROwn.nil .., hx1.trans' (hE.trans' (Ext.trans' ((Ext.refl _).alloc _) hx2))⟩
        | some ms =>
          have hml := mustsL_len s p.st
          have hsub := mustsL_sub s p.st
          rw [hm] at hmc hml hsub
          have hmc2 : ∀ W, Ext wr W → ∀ vs, RSl RInt 1 (fun _ => True) W p.st [vs] → Calls Tryz.prog 80 #[.pointer (some ⟨g, 0, none⟩), vs] W fun e w' => ∃ A' c', e = .returned (.tuple #[.slice A' ms.length c', .int .i64 0]) ∧ ROwn RLbs 1 22 W.heap.size (fun b => (Value.slice A out.length c).ownBlock ≠ some b) w' ms (.slice A' ms.length c') ∧ Ext W w' := fun W hW vs hv => (hmc W hW vs hv).mono fun _ _ h => h
          simp only [rowO] at hml hsub
          clear hmc
          have hgs2 : Hid (genGo s pls [] = if 4000 < (out ++ ms.map (Te.mk p.tr)).length then none else genGo s (pls.drop (i + 1)) (out ++ ms.map (Te.mk p.tr))) := by show _ = _; rw [← hgs, genGo, hm]
          clear hgs hm
          go_wp2_with fail
          refine (hmc2 _ ((Ext.refl _).alloc _) _ ((RSl.good RInt.good).bel HSP.out ((Ext.refl _).alloc _))).mono ?_
          rintro e w2 ⟨A2, c2, rfl, hr2, hx2⟩
          have hbp := World.alloc_heap_new wr (.cells #[.slice At p.tr.length ct, .slice As p.st.length cst] 204)
          have e0 := Ext.keep hx2 (cell_of_row _ _ 0 _ _ _ hbp)
          have hx2' := Ext.trans' ((Ext.refl wr).alloc _) hx2
          have hz2' : wr.heap.size + 1 ≤ w2.heap.size := by have := hx2.size; simp at this; omega
          have HMR := Lib.hid hr2
          obtain ⟨wa, rfl⟩ : ∃ wa, wa = wr := ⟨_, rfl⟩
          have hmb := fun q hq => hr2.own_lt (b := q) hq
          obtain ⟨Z, hZ⟩ : ∃ Z : Nat → Prop, Z = fun q => (Value.slice A out.length c).ownBlock = some q := ⟨_, rfl⟩
          obtain ⟨oj, hoj⟩ : ∃ oj : Nat → List Te, oj = fun j => out ++ (ms.take j).map (Te.mk p.tr) := ⟨_, rfl⟩
          have ho0 : Hid (oj 0 = out) := by show _ = _; rw [hoj]; simp
          have ho1 : Hid (∀ j, (h : j < ms.length) → oj (j + 1) = oj j ++ [Te.mk p.tr ms[j]]) := by
            intro j h
            rw [hoj]
            simp only
            rw [List.take_succ_eq_append_getElem h, List.map_append, List.append_assoc]
            rfl
          have ho2 : Hid (oj ms.length = out ++ ms.map (Te.mk p.tr)) := by show _ = _; rw [hoj]; simp only [List.take_length]
          have ho3 : Hid (∀ j, (oj j).length ≤ 4000 + 2000) := by
            intro j
            have h1 := hgo.out.1
            have h2 := hml.1
            rw [hoj]
            simp only [List.length_append, List.length_map, List.length_take]
            omega
          have HO2 := HO.out.ext RTe.good hx2'
          have HOW := Lib.hid HO2
          have hXw2 : Ext wl w2 := hE.trans' hx2'
          clear hbp hr2 hoj HO2
          go_wp2_with fail
          go_loopw [8, 42] (fun vo vi wr => ∃ (j : Nat) (A3 : Option Addr) (c3 : Nat), j ≤ ms.length ∧ vi = .int .i64 j ∧ vo = .slice A3 (oj j).length c3 ∧ ROwn RTe 2 40 wl.heap.size (fun _ => True) wr (oj j) (.slice A3 (oj j).length c3) ∧ Hid (Bt Z w2 wr ∧ (Z = (fun q => (Value.slice A3 (oj j).length c3).ownBlock = some q) ∨ ∀ q, (Value.slice A3 (oj j).length c3).ownBlock = some q → w2.heap.size ≤ q)) ∧ Ext wl wr) (fun _ vi _ => ms.length - (intOf vi).toNat)
          case atStart => exact ⟨0, A, c, Nat.zero_le _, rfl, by rw [ho0.out], by rw [ho0.out]; exact HOW.out, ⟨Bt.refl _ _, .inl (by rw [hZ, ho0.out])⟩, hXw2⟩
          case round =>
            obtain ⟨j, A3, c3, hj, rfl, rfl, hown3, hbz, hE3⟩ := hrel
            have hlj := ho3.out j
            by_cases hltj : j < ms.length
            · obtain ⟨news4, hrow4, _⟩ := id HMR.out
              obtain ⟨g4, cap4, he4⟩ := Joins.ownsRow_form hrow4 (by omega)
              injection he4 with he41 _ he42
              subst he41 he42
              have hg4 := (hmb g4 rfl)
              simp only [World.size_alloc] at hg4
              obtain ⟨u, gc, hru, _⟩ := HMR.out.get1 j hltj
              obtain ⟨Am, cm, rfl, _, _⟩ := hru.val
              have hZno : ∀ q, wa.heap.size ≤ q → ¬ Z q := fun q hq h => by rw [hZ] at h; have := (hob q h).2; omega
              have gcr := hbz.out.1.cell gc (hZno g4 (by omega))
              have e0r := hbz.out.1.cell e0 (hZno wa.heap.size (Nat.le_refl _))
              have hru2 : RLbs (fun q => (Value.slice A out.length c).ownBlock ≠ some q ∧ q < w2.heap.size) wr ms[j] [.slice Am ms[j].length cm] :=
                RLbs.good.move (RLbs.good.mono hru fun q hq h => ⟨h.1, hq⟩) (hbz.out.1.kp fun q _ h hz => by rw [hZ] at hz; exact h.1 hz)
              have hst := Lib.hid (ho1.out j hltj)
              have hml2 := hml.2 _ (List.getElem_mem hltj)
              have hms := hsub _ (List.getElem_mem hltj)
              obtain ⟨m, hmm⟩ : ∃ m, ms[j] = m := ⟨_, rfl⟩
              rw [hmm] at hru2 gcr hml2 hms
              have HST : Hid (oj (j + 1) = oj j ++ [⟨p.tr, m⟩]) := by show _ = _; rw [hst.out, hmm]
              have hcp1 := copied_c (fun b => b < wl.heap.size) p.tr _ wr (RLbs.good.bel HTP.out hE3) (fun x hx => hsm x (hpf.2.1 x hx)) (by have := hpf.1; omega)
              have hcp2 := fun W (hW : Ext wr W) => copied_c (fun q => (Value.slice A out.length c).ownBlock ≠ some q ∧ q < w2.heap.size) m _ W (RLbs.good.bel hru2 hW) (fun x hx => hsm x (hms x hx)) (by omega)
              have hob3 := fun q hq => hown3.own_lt (b := q) hq
              have HOW3 := Lib.hid hown3
              have hsz3 := hbz.out.1.size
              have hlw := hXw2.size
              clear hrow4 gc hru hst hmm hown3 hru2
              go_wp2_with fail
              refine hcp1.mono ?_
              rintro e w5 ⟨A5, c5, rfl, hr5, hx5⟩
              go_wp2_with fail
              refine (hcp2 _ hx5).mono ?_
              rintro e w6 ⟨A6, c6, rfl, hr6, hx6⟩
              have hx36 := hx5.trans' hx6
              have hz5 := hx5.size
              have hz6 := hx6.size
              have ho7 := HOW3.out.ext RTe.good (hx36.alloc (.cells #[.slice A5 p.tr.length c5, .slice A6 m.length c6] 40))
              obtain ⟨news, hrow, hF⟩ := ho7
              have hcc := cells_new w6 #[.slice A5 p.tr.length c5, .slice A6 m.length c6] 40
              have hy : RTe (fun b => True ∧ (Value.slice A3 (oj j).length c3).ownBlock ≠ some b) (w6.alloc (.cells #[.slice A5 p.tr.length c5, .slice A6 m.length c6] 40)) ⟨p.tr, m⟩ [.slice A5 p.tr.length c5, .slice A6 m.length c6] := by
                refine ⟨_, _, rfl, RLbs.good.bel (RLbs.good.mono hr5 fun q _ hq => ⟨trivial, fun e => ?_⟩) (hx6.alloc _), RLbs.good.bel (RLbs.good.mono hr6 fun q _ hq => ⟨trivial, fun e => ?_⟩) ((Ext.refl _).alloc _)⟩
                · have := hob3 q e
                  rcases hq with h | h
                  · have h1 : q < wl.heap.size := h.1; omega
                  · omega
                · have h3 := hob3 q e
                  rcases hq with h | h
                  · rcases hbz.out.2 with h4 | h4
                    · have : Z q := by rw [h4]; exact e
                      rw [hZ] at this
                      exact h.1.1 this
                    · have := h4 q e; have := h.1.2; omega
                  · omega
              have HF := Lib.hid hF
              have HY := Lib.hid hy
              clear hF hy hr5 hr6 hcp1 hcp2
              go_wp2_with (at_builtin; refine wpList_append_own_at _ rfl _ _ 34 rfl wl.heap.size 40 i3 _ 2 48 Tryz.underlying34 hi3 hz0 hz1 hz2 rfl (by decide) _ _ _ rfl hrow ⟨w6.heap.size, 0, none⟩ 1 1 [.slice A5 p.tr.length c5, .slice A6 m.length c6] rfl rfl hcc (by simp [Value.oneCell']) (by unfold maxLen; omega) (by omega) (by simp; omega) ?_; intro v8 w8 hown8 hgrow8 hnil8 hat8; obtain ⟨g8, c8, rfl⟩ := ownsRow_succ hown8)
              have hp8 := Lib.hid (ROwn.push RTe.good HF.out (Flat.single HY.out rfl) hown8 hgrow8 hat8)
              have hX8 : Ext wl w8 := Below.grown ((hE3.trans' hx36).alloc _) hgrow8 (by simp; omega) fun q hq => (hob3 q hq).1
              have hbz8 : Bt Z w2 w8 := by
                have h1 : Bt (fun q => Z q ∨ w2.heap.size ≤ q) w2 w8 := ((hbz.out.1.mono fun q _ h => .inl h).trans (hx36.alloc _).bt).trans ((Bt.of_grown hgrow8).mono fun q _ h => by
                  rcases hbz.out.2 with h4 | h4
                  · left; rw [h4]; exact h.symm
                  · exact .inr (h4 q h.symm))
                exact h1.mono fun q hq h => h.resolve_right (by omega)
              have hlen8 : Hid ((oj (j + 1)).length = (oj j).length + 1) := by show _ = _; rw [HST.out, List.length_append]; rfl
              have hown9 : Hid (Z = (fun q => (Value.slice (some ⟨g8, 0, none⟩) (oj (j + 1)).length c8).ownBlock = some q) ∨ ∀ q, (Value.slice (some ⟨g8, 0, none⟩) (oj (j + 1)).length c8).ownBlock = some q → w2.heap.size ≤ q) := by
                have hob8 : ∀ n, (Value.slice (some ⟨g8, 0, none⟩) n c8).ownBlock = some g8 := fun _ => rfl
                rw [hob8] at hat8 ⊢
                rcases hat8 with h | h
                · rw [h]
                  rcases hbz.out.2 with h4 | h4
                  · left; exact h4
                  · right; exact fun q e => h4 q (h ▸ e)
                · right
                  intro q e
                  rw [h] at e
                  injection e with e
                  simp at e
                  omega
              clear hown8 hgrow8 hat8 hnil8 hrow hcc
              go_wp2_with fail
              go_roundw
              case rel => exact ⟨j + 1, some ⟨g8, 0, none⟩, c8, by omega, by go_num, by rw [hlen8.out], by rw [hlen8.out, HST.out]; exact hp8.out, ⟨hbz8, hown9.out⟩, hX8⟩
              case measure => simp [intOf]; omega
            · obtain rfl : j = ms.length := by omega
              obtain ⟨o2, ho2e⟩ : ∃ o2, oj ms.length = o2 := ⟨_, rfl⟩
              have hoo : o2 = out ++ ms.map (Te.mk p.tr) := by rw [← ho2e]; exact ho2.out
              have hgs3 : Hid (genGo s pls [] = if 4000 < o2.length then none else genGo s (pls.drop (i + 1)) o2) := by show _ = _; rw [hgs2.out, hoo]
              rw [ho2e] at hown3 ⊢
              have HOW3 := Lib.hid hown3
              clear hown3 hbz ho2e hoo hlj
              by_cases hlim : 4000 < o2.length
              · have HF : Hid (generateL s d = none) := by show _ = _; rw [HV.out, hgs3.out, if_pos hlim]
                go_wp2_with fail
                go_ret2
                rw [HF.out]
                exact ⟨none, 0, rfl, ROwn.nil .., hx1.trans' hE3⟩
              · have hgn : Hid (genGo s (pls.drop (i + 1)) o2 = genGo s pls []) := by show _ = _; rw [hgs3.out, if_neg hlim]
                go_wp2_with fail
                go_roundw
                case rel => exact ⟨i + 1, o2, A3, c3, by omega, by go_num, rfl, HOW3.out, ⟨by omega, hgn.out⟩, hE3⟩
                case measure => simp [intOf]; omega
      · obtain rfl : i = pls.length := by omega
        have hfin : Hid (generateL s d = some out) := by show _ = _; rw [HV.out, ← hgo.out.2, List.drop_length, genGo]
        have HO := Lib.hid hown
        have hwl := hx1.size
        clear hown
        go_wp2_with fail
        go_ret2
        rw [hfin.out]
        exact ⟨A, c, rfl, HO.out.base hwl, hx1.trans' hE⟩

open Classical in
/-- suite.Generate -/
noncomputable def genE (s : Sy) (d : Int) : Int := if okSyP s then (if 0 ≤ d ∧ d ≤ 8 then errO (generateL s d.toNat) else 1) else 8
open Classical in
noncomputable def genR (s : Sy) (d : Int) : List Te := if okSyP s ∧ (0 ≤ d ∧ d ≤ 8) then rowO (generateL s d.toNat) else []
set_option maxHeartbeats 1000000 in
set_option maxRecDepth 100000 in
theorem Generate_c (S : Nat → Prop) (s : Sy) (hsm : SmallSy s) (cs : List Value) (d : Int) (w : World) (hx : RSy S w s cs) :
    Calls Tryz.prog 20 #[.agg cs.toArray, .int .i64 d] w (TupPost RTe 2 40 (genR s d) (genE s d) w) := by
  obtain ⟨_, vl, ve, rfl, hvl, hve⟩ := id hx
  obtain ⟨Al, cl, rfl, _, _⟩ := hvl.val
  obtain ⟨Ae, ce, rfl, _, _⟩ := hve.val
  have HX := Lib.hid hx
  clear hx hvl hve
  by_cases hok : okSyP s
  case neg =>
    have hcon := fun W (hW : Ext w W) => newSystem_no S s _ W (RSy.good.bel HX.out hW) hok
    have HV := Lib.hid (And.intro (show genE s d = 8 from if_neg hok) (show genR s d = [] from if_neg fun h => hok h.1))
    go_enter Tryz.func20, Tryz.ntmps20
    go_wp2_with fail
    refine (hcon _ (by repeat (first | exact Ext.refl _ | apply Ext.alloc | apply Below.drew | apply Ext.drewN | refine Ext.trans' ?_ (by assumption) | refine Ext.trans' ?_ (ExtD.ext (by assumption))))).mono ?_
    rintro e w1 ⟨rfl, h1⟩
    go_wp2_with fail
    go_ret2
    rw [HV.out.1, HV.out.2]
    exact ⟨none, 0, rfl, ROwn.nil .., (by repeat (first | exact Ext.refl _ | apply Ext.alloc | apply Below.drew | apply Ext.drewN | refine Ext.trans' ?_ (by assumption) | refine Ext.trans' ?_ (ExtD.ext (by assumption))))⟩
  have hcon := fun W (hW : Ext w W) => newSystem_ok S s _ W (RSy.good.bel HX.out hW) hok
  by_cases hd0 : 0 ≤ d
  case neg =>
    have HV := Lib.hid (And.intro (show genE s d = 1 from by rw [genE, if_pos hok, if_neg fun h => hd0 h.1]) (show genR s d = [] from if_neg fun h => hd0 h.2.1))
    go_enter Tryz.func20, Tryz.ntmps20
    go_wp2_with fail
    refine (hcon _ (by repeat (first | exact Ext.refl _ | apply Ext.alloc | apply Below.drew | apply Ext.drewN | refine Ext.trans' ?_ (by assumption) | refine Ext.trans' ?_ (ExtD.ext (by assumption))))).mono ?_
    rintro e w1 ⟨g, rfl, h1, hg, hS⟩
    go_wp2_with fail
    go_ret2
    rw [HV.out.1, HV.out.2]
    exact ⟨none, 0, rfl, ROwn.nil .., (by repeat (first | exact Ext.refl _ | apply Ext.alloc | apply Below.drew | apply Ext.drewN | refine Ext.trans' ?_ (by assumption) | refine Ext.trans' ?_ (ExtD.ext (by assumption))))⟩
  by_cases hd8 : d ≤ 8
  case neg =>
    have HV := Lib.hid (And.intro (show genE s d = 1 from by rw [genE, if_pos hok, if_neg fun h => hd8 h.2]) (show genR s d = [] from if_neg fun h => hd8 h.2.2))
    go_enter Tryz.func20, Tryz.ntmps20
    go_wp2_with fail
    refine (hcon _ (by repeat (first | exact Ext.refl _ | apply Ext.alloc | apply Below.drew | apply Ext.drewN | refine Ext.trans' ?_ (by assumption) | refine Ext.trans' ?_ (ExtD.ext (by assumption))))).mono ?_
    rintro e w1 ⟨g, rfl, h1, hg, hS⟩
    go_wp2_with fail
    go_ret2
    rw [HV.out.1, HV.out.2]
    exact ⟨none, 0, rfl, ROwn.nil .., (by repeat (first | exact Ext.refl _ | apply Ext.alloc | apply Below.drew | apply Ext.drewN | refine Ext.trans' ?_ (by assumption) | refine Ext.trans' ?_ (ExtD.ext (by assumption))))⟩
  have HV := Lib.hid (And.intro (show genE s d = errO (generateL s d.toNat) from by rw [genE, if_pos hok, if_pos ⟨hd0, hd8⟩]) (show genR s d = rowO (generateL s d.toNat) from if_pos ⟨hok, hd0, hd8⟩))
  have hgc := fun W g (hg : IsSys (fun _ => True) W g s) => generate_c (fun _ => True) s hok hsm g d.toNat W hg (by omega)
  rw [Int.toNat_of_nonneg hd0] at hgc
  go_enter Tryz.func20, Tryz.ntmps20
  go_wp2_with fail
  refine (hcon _ (by repeat (first | exact Ext.refl _ | apply Ext.alloc | apply Below.drew | apply Ext.drewN | refine Ext.trans' ?_ (by assumption) | refine Ext.trans' ?_ (ExtD.ext (by assumption))))).mono ?_
  rintro e w1 ⟨g, rfl, h1, hg, hS⟩
  have hX1 : Ext w w1 := (by repeat (first | exact Ext.refl _ | apply Ext.alloc | apply Below.drew | apply Ext.drewN | refine Ext.trans' ?_ (by assumption) | refine Ext.trans' ?_ (ExtD.ext (by assumption))))
  go_wp2_with fail
  refine (hgc _ g (hS.mono fun _ _ _ => trivial)).mono ?_
  rintro e w2 ⟨A2, c2, rfl, ho2, h2⟩
  have HO := Lib.hid (ho2.base hX1.size)
  clear ho2
  go_wp2_with fail
  go_ret2
  rw [HV.out.1, HV.out.2]
  exact ⟨A2, c2, rfl, HO.out, hX1.trans' h2⟩
end Go.Proofs.YtegenalcheooeaaGreat

