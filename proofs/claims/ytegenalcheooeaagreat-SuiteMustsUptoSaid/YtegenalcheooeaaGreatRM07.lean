/- Of the proof of a law of the suites: PRef, RSets. -/
import Derived.Test.YtegenalcheooeaaGreatRM02
import Derived.Test.YtegenalcheooeaaGreatRM05
set_option linter.unusedSectionVars false
set_option linter.unusedSimpArgs false
set_option linter.unusedVariables false
namespace Go.Proofs.YtegenalcheooeaaGreat
open Go.RowKit
attribute [local go_sem] cell?_exto
section

theorem qjw {α:Type} {cf:α→α→Int} (ho:qc6 cf):∀ (l l':List α),l.Pairwise (fun a b=>cf a b<0)→l'.Pairwise (fun a b=>cf a b<0)→(∀ y,y∈l↔y∈l')→l=l'
 | [],l',_,_,h=>by
  cases l' with
  | nil=>rfl
  | cons y l'=>exact absurd ((h y).2 (by simp)) (by simp)
 | x :: l,[],_,_,h=>absurd ((h x).1 (by simp)) (by simp)
 | x :: l,y :: l',h1,h2,h=>by
  obtain ⟨a1,a2⟩:=List.pairwise_cons.1 h1
  obtain ⟨b1,b2⟩:=List.pairwise_cons.1 h2
  have irr:∀ z,¬ cf z z<0:=fun z=>by have:=ho.refl z;omega
  have e:x=y:=by
   rcases List.mem_cons.1 ((h x).1 (by simp)) with e | e
   ·exact e
   ·rcases List.mem_cons.1 ((h y).2 (by simp)) with e' | e'
    ·exact e'.symm
    ·exact absurd (ho.trans _ _ _ (a1 y e') (b1 x e)) (irr _)
  subst e
  congr 1
  refine qjw ho l l' a2 b2 fun z=>?_
  have hz:=h z
  simp only [List.mem_cons] at hz
  constructor
  ·intro hm
   rcases hz.1 (.inr hm) with e | e
   ·exact absurd (e ▸ a1 z hm) (irr _)
   ·exact e
  ·intro hm
   rcases hz.2 (.inr hm) with e | e
   ·exact absurd (e ▸ b1 z hm) (irr _)
   ·exact e
def qb2 (a b:List Int):Int:=qaz qag a b
theorem qfw:qc6 qb2:=ordL ordI
def Ris (l:List Int):Prop:=l.Pairwise (· < ·)
def bsR (l:List (List Int)) (x:List Int) (k:Nat):Bool:=match l[k]? with | some y=>decide (qb2 y x<0) | none=>false
def atR (l:List (List Int)) (x:List Int):Nat:=bsI (bsR l x) l.length 0 l.length
def qa1 (l:List (List Int)) (x:List Int):List (List Int):=if l[atR l x]? = some x then l else l.take (atR l x)++[x]++l.drop (atR l x)
def qcw (a b:List Int):Bool:=a.all fun x=>decide (x∈b)
def qev (a b:List Int):Bool:=a.any fun x=>decide (x∈b)
def qbf:List Int→Int→List Int
 | [],x=>[x]
 | y :: ys,x=>if x<y then x :: y :: ys else y :: qbf ys x
def qg0 (a m:List Int):List (List Int):=if qev m a then [m] else a.map (qbf m)
def qby (ls:List (List Int)) (a:List Int):List (List Int):=ls.flatMap (qg0 a)
def qgd (ls:List (List Int)) (a:List Int):List (List Int):=(qby ls a).foldl qa1 []
def qec (n:List (List Int)):Bool:=decide (2000<n.length) || n.any fun m=>decide (64<m.length)
def qeq (l:List (List Int)):List (List Int):=l.filter fun a=>l.all fun b=>decide (b=a) || !qcw b a
def qdv:List (List Int)→List (List Int)→Option (List (List Int))
 | [],ls=>some ls
 | a :: bs,ls=>if qec (qgd ls a) then none else qdv bs (qeq (qgd ls a))
def StrS (l:List (List Int)):Prop:=l.Pairwise fun a b=>qb2 a b<0
theorem qjc {l:List (List Int)} {x:List Int} {h:Nat} (hh:h<l.length):bsR l x h=decide (qb2 l[h] x<0):=by simp [bsR,List.getElem?_eq_getElem hh]
theorem bsR_mono {l:List (List Int)} (h:StrS l) (x:List Int) (a b:Nat) (hab:a≤b) (hb:bsR l x b=true):bsR l x a=true:=by
 have hbl:b<l.length:=by
  refine Nat.lt_of_not_le fun hle=>?_
  simp [bsR,List.getElem?_eq_none hle] at hb
 rw [qjc hbl,decide_eq_true_eq] at hb
 rw [qjc (by omega),decide_eq_true_eq]
 rcases Nat.lt_or_ge a b with hlt | hge
 ·exact qfw.trans _ _ _ (List.pairwise_iff_getElem.1 h a b (by omega) hbl hlt) hb
 ·have:a=b:=by omega
  subst this
  exact hb
theorem atR_spec {l:List (List Int)} (h:StrS l) (x:List Int):(∀ k,k<atR l x→bsR l x k=true)∧∀ k,atR l x≤k→bsR l x k=false :=
 qkn _ l.length (bsR_mono h x) _ _ _ (Nat.zero_le _) (by omega) (fun k hk=>by omega) fun k hk=>by simp [bsR,List.getElem?_eq_none hk]
theorem atR_le (l:List (List Int)) (x:List Int):atR l x≤l.length:=(qjj _ _ 0 l.length (Nat.zero_le _)).2
theorem qnn (l:List (List Int)) (x y:List Int):y∈qa1 l x↔y∈l∨y=x:=by
 unfold qa1
 split
 ·rename_i h
  constructor
  ·exact .inl
  ·rintro (h' | rfl)
   ·exact h'
   ·exact List.mem_of_getElem? h
 ·constructor
  ·intro h
   rcases List.mem_append.1 h with h | h
   ·rcases List.mem_append.1 h with h | h
    ·exact .inl (List.mem_of_mem_take h)
    ·exact .inr (List.mem_singleton.1 h)
   ·exact .inl (List.mem_of_mem_drop h)
  ·rintro (h | rfl)
   ·rw [← List.take_append_drop (atR l x) l] at h
    rcases List.mem_append.1 h with h | h
    ·simp [h]
    ·simp [h]
   ·simp
theorem insR_str {l:List (List Int)} (h:StrS l) (x:List Int):StrS (qa1 l x):=by
 unfold qa1
 split
 ·exact h
 ·rename_i hne
  have hs:=atR_spec h x
  have hlt:∀ y∈l.take (atR l x),qb2 y x<0:=fun y hy=>by
   obtain ⟨i,hi,rfl⟩:=List.mem_iff_getElem.1 hy
   rw [List.length_take] at hi
   have:=hs.1 i (by omega)
   rw [qjc (by omega),decide_eq_true_eq] at this
   rw [List.getElem_take]
   exact this
  have hgt:∀ y∈l.drop (atR l x),qb2 x y<0:=fun y hy=>by
   obtain ⟨i,hi,rfl⟩:=List.mem_iff_getElem.1 hy
   rw [List.length_drop] at hi
   have hat:atR l x<l.length:=by omega
   have h0:=hs.2 (atR l x) (Nat.le_refl _)
   rw [qjc hat,decide_eq_false_iff_not] at h0
   have h3:qb2 l[atR l x] x≠0:=fun e=>hne (by rw [List.getElem?_eq_getElem hat,qfw.eq _ _ e])
   have h4:=qfw.sgn x l[atR l x]
   have h5:qb2 x l[atR l x]<0:=by omega
   rw [List.getElem_drop]
   rcases Nat.eq_zero_or_pos i with rfl | hp
   ·exact h5
   ·exact qfw.trans _ _ _ h5 (List.pairwise_iff_getElem.1 h _ _ hat (by omega) (by omega))
  refine List.pairwise_append.2 ⟨List.pairwise_append.2 ⟨List.Pairwise.sublist (List.take_sublist _ _) h,List.pairwise_singleton _ _,fun a ha b hb=>?_⟩,List.Pairwise.sublist (List.drop_sublist _ _) h,fun a ha b hb=>?_⟩
  ·rw [List.mem_singleton.1 hb]
   exact hlt a ha
  ·rcases List.mem_append.1 ha with ha | ha
   ·exact qfw.trans _ _ _ (hlt a ha) (hgt b hb)
   ·rw [List.mem_singleton.1 ha]
    exact hgt b hb
theorem qhh:∀ (L acc:List (List Int)),StrS acc→StrS (L.foldl qa1 acc)∧∀ y,y∈L.foldl qa1 acc↔y∈acc∨y∈L
 | [],acc,h=>⟨h,fun y=>by simp⟩
 | x :: L,acc,h=>by
  obtain ⟨h1,h2⟩:=qhh L (qa1 acc x) (insR_str h x)
  refine ⟨h1,fun y=>?_⟩
  rw [List.foldl_cons,h2,qnn,List.mem_cons,or_assoc]
theorem qkh (l:List (List Int)) (x:List Int):l.length≤(qa1 l x).length∧(qa1 l x).length≤l.length+1:=by
 have:=atR_le l x
 unfold qa1
 split
 ·omega
 ·simp only [List.length_append,List.length_take,List.length_drop,List.length_cons,List.length_nil]
  omega
theorem qrf:∀ (L acc:List (List Int)),acc.length≤(L.foldl qa1 acc).length
 | [],acc=>Nat.le_refl _
 | x :: L,acc=>Nat.le_trans (qkh acc x).1 (qrf L (qa1 acc x))
theorem qie (x y:Int):∀ m:List Int,y∈qbf m x↔y∈m∨y=x
 | []=>by simp [qbf]
 | z :: m=>by
  have ih:=qie x y m
  rw [qbf]
  split
  ·simp only [List.mem_cons]
   constructor
   ·rintro (h | h)
    ·exact .inr h
    ·exact .inl h
   ·rintro (h | h)
    ·exact .inr h
    ·exact .inl h
  ·rw [List.mem_cons,ih,List.mem_cons,or_assoc]
theorem qtc (x:Int):∀ m:List Int,Ris m→x∉m→Ris (qbf m x)
 | [],_,_=>List.pairwise_singleton _ _
 | z :: m,h,hx=>by
  obtain ⟨h1,h2⟩:=List.pairwise_cons.1 h
  rw [List.mem_cons,not_or] at hx
  rw [qbf]
  split
  ·rename_i hlt
   refine List.pairwise_cons.2 ⟨fun y hy=>?_,h⟩
   rcases List.mem_cons.1 hy with rfl | hy
   ·exact hlt
   ·have:=h1 y hy
    omega
  ·rename_i hge
   refine List.pairwise_cons.2 ⟨fun y hy=>?_,qtc x m h2 hx.2⟩
   rcases (qie x y m).1 hy with hy | rfl
   ·exact h1 y hy
   ·omega
theorem qqx (x:Int):∀ m:List Int,(qbf m x).length=m.length+1
 | []=>rfl
 | z :: m=>by
  rw [qbf]
  split
  ·rfl
  ·rw [List.length_cons,qqx x m,List.length_cons]
def lbI (s:Sy) (i:Int):Lb:=s.ls.getD i.toNat ⟨0,[]⟩
def qak (s:Sy) (m:List Int):List Lb:=m.map (lbI s)
structure qbi (s:Sy) (m:List Int):Prop where
 ris:Ris m
 ran:∀ i∈m,0≤i∧i<s.ls.length
variable {s:Sy}
theorem qi0 {k:Nat} (h:k<s.ls.length):lbI s (k:Int)=s.ls[k]:=by simp [lbI,List.getD_eq_getElem?_getD,List.getElem?_eq_getElem h]
theorem qj3 (hok:qai s) {i j:Int} (hi:0≤i∧i<s.ls.length) (hj:0≤j∧j<s.ls.length):qao (lbI s i) (lbI s j)<0↔i<j:=by
 obtain ⟨a,rfl⟩:∃ a:Nat,i=(a:Int):=⟨i.toNat,by omega⟩
 obtain ⟨b,rfl⟩:∃ b:Nat,j=(b:Int):=⟨j.toNat,by omega⟩
 have ha:a<s.ls.length:=by omega
 have hb:b<s.ls.length:=by omega
 rw [qi0 ha,qi0 hb]
 have hinc:=qpu hok
 constructor
 ·intro h
  refine Int.not_le.1 fun hle=>?_
  rcases Nat.lt_or_ge b a with hlt | hge
  ·exact qhg _ (qcv.trans _ _ _ h (hinc.get hlt ha))
  ·obtain rfl:a=b:=by omega
   exact qhg _ h
 ·intro h
  exact hinc.get (by omega) hb
theorem lbI_inj (hok:qai s) {i j:Int} (hi:0≤i∧i<s.ls.length) (hj:0≤j∧j<s.ls.length) (h:lbI s i=lbI s j):i=j:=by
 have h1:=qj3 hok hi hj
 have h2:=qj3 hok hj hi
 rw [h] at h1
 rw [h] at h2
 have:=qhg (lbI s j)
 have a:¬ i<j:=fun h=>this (h1.2 h)
 have b:¬ j<i:=fun h=>this (h2.2 h)
 omega
theorem lbI_eq (hok:qai s) {i j:Int} (hi:0≤i∧i<s.ls.length) (hj:0≤j∧j<s.ls.length):qao (lbI s i) (lbI s j)=0↔qag i j=0:=by
 rw [qcv.iff,ordI.iff]
 exact ⟨lbI_inj hok hi hj,fun h=>by rw [h]⟩
theorem qjo (hok:qai s):∀ a b:List Int,(∀ i∈a,0≤i∧i<s.ls.length)→(∀ i∈b,0≤i∧i<s.ls.length)→(qd7 (qak s a) (qak s b)<0↔qb2 a b<0)
 | [],[],_,_=>Iff.rfl
 | [],_ :: _,_,_=>Iff.rfl
 | _ :: _,[],_,_=>Iff.rfl
 | x :: a,y :: b,ha,hb=>by
  have ih:=qjo hok a b (fun i hi=>ha i (by simp [hi])) fun i hi=>hb i (by simp [hi])
  have hx:=ha x (by simp)
  have hy:=hb y (by simp)
  have he:=lbI_eq hok hx hy
  have hl:=qj3 hok hx hy
  simp only [qd7,qb2,qak,List.map_cons,qaz] at ih ⊢
  by_cases h:qag x y=0
  ·rw [if_pos (he.2 h),if_pos h]
   exact ih
  ·rw [if_neg fun h'=>h (he.1 h'),if_neg h,hl]
   unfold qag at h ⊢
   split at h
   ·rename_i hlt
    simp [hlt]
   ·split at h
    ·rename_i h1 h2
     simp [h1,h2]
    ·exact absurd rfl h
theorem lab_inj (hok:qai s) {a b:List Int} (ha:∀ i∈a,0≤i∧i<s.ls.length) (hb:∀ i∈b,0≤i∧i<s.ls.length) (h:qak s a=qak s b):a=b:=by
 have h1:=qjo hok a b ha hb
 have h2:=qjo hok b a hb ha
 rw [h] at h1
 rw [h] at h2
 have h3:¬ qd7 (qak s b) (qak s b)<0:=by have:=qej.refl (qak s b);omega
 refine qfw.eq a b ?_
 have a1:¬ qb2 a b<0:=fun h=>h3 (h1.2 h)
 have a2:¬ qb2 b a<0:=fun h=>h3 (h2.2 h)
 have:=qfw.sgn b a
 omega
theorem qgm (hok:qai s) {m:List Int} (h:qbi s m):Inc (qak s m):=by
 refine List.pairwise_map.2 (List.Pairwise.imp_of_mem (fun {a b} ha hb hlt=>?_) h.ris)
 exact (qj3 hok (h.ran a ha) (h.ran b hb)).2 hlt
theorem qko (hok:qai s) {m:List Int} (h:∀ i∈m,0≤i∧i<s.ls.length) {i:Int} (hi:0≤i∧i<s.ls.length):lbI s i∈qak s m↔i∈m:=by
 rw [qak,List.mem_map]
 constructor
 ·rintro ⟨j,hj,e⟩
  rw [← lbI_inj hok (h j hj) hi e]
  exact hj
 ·exact fun h=>⟨i,h,rfl⟩
theorem lab_sc (hok:qai s) (L:List (List Int)) (hL:∀ m∈L,qbi s m):(L.foldl qa1 []).map (qak s)=qb4 (qbw (L.map (qak s))):=by
 obtain ⟨h1,h2⟩:=qhh L [] List.Pairwise.nil
 refine qjw qej _ _ (List.pairwise_map.2 (List.Pairwise.imp_of_mem (fun {a b} ha hb hlt=>?_) h1)) (qkc qej qkt _ (qh0 qej _)) fun y=>?_
 ·have ha':a∈L:=by simpa using (h2 a).1 ha
  have hb':b∈L:=by simpa using (h2 b).1 hb
  exact (qjo hok a b (hL a ha').ran (hL b hb').ran).2 hlt
 ·rw [qih,List.mem_map,List.mem_map]
  refine exists_congr fun m=>and_congr_left fun _=>?_
  rw [h2]
  simp
theorem lab_meets (hok:qai s) {m a:List Int} (hm:qbi s m) (ha:qbi s a):qd3 (qak s m) (qak s a)=qev m a:=by
 rw [Bool.eq_iff_iff,qit (qgm hok ha),qev,List.any_eq_true]
 constructor
 ·rintro ⟨x,hx,hxa⟩
  obtain ⟨i,hi,rfl⟩:=List.mem_map.1 hx
  exact ⟨i,hi,decide_eq_true ((qko hok ha.ran (hm.ran i hi)).1 hxa)⟩
 ·rintro ⟨i,hi,h⟩
  exact ⟨lbI s i,List.mem_map.2 ⟨i,hi,rfl⟩,(qko hok ha.ran (hm.ran i hi)).2 (of_decide_eq_true h)⟩
theorem qr6 {m:List Int} (hm:qbi s m) {x:Int} (hx:0≤x∧x<s.ls.length) (hn:x∉m):qbi s (qbf m x):=⟨qtc x m hm.ris hn,fun i hi=>by
 rcases (qie x i m).1 hi with h | rfl
 ·exact hm.ran i h
 ·exact hx⟩
theorem lab_with (hok:qai s) {m:List Int} (hm:qbi s m) {x:Int} (hx:0≤x∧x<s.ls.length) (hn:x∉m):qci (qak s m) (lbI s x)=qak s (qbf m x):=by
 refine qjw qcv _ _ (qo9 (qgm hok hm) _ fun h=>hn ((qko hok hm.ran hx).1 h)) (qgm hok (qr6 hm hx hn)) fun y=>?_
 rw [qjl,qak,qak,List.mem_map,List.mem_map]
 constructor
 ·rintro (⟨i,hi,rfl⟩ | rfl)
  ·exact ⟨i,(qie x i m).2 (.inl hi),rfl⟩
  ·exact ⟨x,(qie x x m).2 (.inr rfl),rfl⟩
 ·rintro ⟨i,hi,rfl⟩
  rcases (qie x i m).1 hi with h | rfl
  ·exact .inl ⟨i,h,rfl⟩
  ·exact .inr rfl
theorem qqu {m a:List Int} (h:¬ qev m a=true) {x:Int} (hx:x∈a):x∉m:=fun hm=>h (List.any_eq_true.2 ⟨x,hm,decide_eq_true hx⟩)
theorem stepR_fin {m a:List Int} (hm:qbi s m) (ha:qbi s a):∀ y∈qg0 a m,qbi s y:=fun y hy=>by
 unfold qg0 at hy
 split at hy
 ·rw [List.mem_singleton.1 hy]
  exact hm
 ·rename_i h
  obtain ⟨x,hx,rfl⟩:=List.mem_map.1 hy
  exact qr6 hm (ha.ran x hx) (qqu h hx)
theorem lab_step (hok:qai s) {m a:List Int} (hm:qbi s m) (ha:qbi s a):qe4 (qak s a) (qak s m)=(qg0 a m).map (qak s):=by
 unfold qe4 qg0
 rw [lab_meets hok hm ha]
 split
 ·rfl
 ·rename_i h
  show (a.map (lbI s)).map _=_
  rw [List.map_map,List.map_map]
  exact List.map_congr_left fun x hx=>lab_with hok hm (ha.ran x hx) (qqu h hx)
theorem lab_raw (hok:qai s) {a:List Int} (ha:qbi s a):∀ ls:List (List Int),(∀ m∈ls,qbi s m)→qcf (ls.map (qak s)) (qak s a)=(qby ls a).map (qak s)
 | [],_=>rfl
 | m :: ls,h=>by
  have ih:=lab_raw hok ha ls fun m hm=>h m (by simp [hm])
  unfold qcf qby at *
  rw [List.map_cons,List.flatMap_cons,List.flatMap_cons,List.map_append,ih,lab_step hok (h m (by simp)) ha]
theorem qtb {a:List Int} (ha:qbi s a) {ls:List (List Int)} (h:∀ m∈ls,qbi s m):∀ y∈qby ls a,qbi s y:=fun y hy=>by
 obtain ⟨m,hm,hy⟩:=List.mem_flatMap.1 hy
 exact stepR_fin (h m hm) ha y hy
theorem qli {a:List Int} (ha:qbi s a) {ls:List (List Int)} (h:∀ m∈ls,qbi s m):∀ y∈qgd ls a,qbi s y:=fun y hy=>by
 have:=((qhh (qby ls a) [] List.Pairwise.nil).2 y).1 hy
 exact qtb ha h y (by simpa using this)
theorem qsq (ls:List (List Int)) (a:List Int):StrS (qgd ls a):=(qhh (qby ls a) [] List.Pairwise.nil).1
theorem lab_next (hok:qai s) {a:List Int} (ha:qbi s a) {ls:List (List Int)} (h:∀ m∈ls,qbi s m):qdi (ls.map (qak s)) (qak s a)=(qgd ls a).map (qak s):=by
 rw [qdi,lab_raw hok ha ls h,qgd,lab_sc hok _ (qtb ha h)]
theorem StrS.nodup {l:List (List Int)} (h:StrS l):l.Nodup:=List.Pairwise.imp (fun {a b} h e=>by subst e;have:=qfw.refl a;omega) h
theorem lab_least (hok:qai s) {n:List (List Int)} (hs:StrS n) (h:∀ m∈n,qbi s m):qeh (n.map (qak s))=(qeq n).map (qak s):=by
 have e:qb4 (qbw (n.map (qak s)))=n.map (qak s):=by
  refine qjw qej _ _ (qkc qej qkt _ (qh0 qej _)) (List.pairwise_map.2 (List.Pairwise.imp_of_mem (fun {a b} ha hb hlt=>(qjo hok a b (h a ha).ran (h b hb).ran).2 hlt) hs)) fun y=>qih _ _
 rw [qeh,e,leastOf,qeq,List.filter_map]
 congr 1
 refine List.filter_congr fun a ha=>?_
 rw [Function.comp_apply,Bool.eq_iff_iff,Bool.not_eq_true',List.any_eq_false,List.all_eq_true]
 constructor
 ·intro hn b hb
  rw [Bool.or_eq_true,decide_eq_true_eq,Bool.not_eq_true']
  by_cases hba:b=a
  ·exact .inl hba
  ·refine .inr (Bool.eq_false_iff.2 fun hp=>hn (qak s b) (List.mem_map.2 ⟨b,hb,rfl⟩) ?_)
   have hsub:∀ x∈qak s b,x∈qak s a:=fun x hx=>by
    obtain ⟨i,hi,rfl⟩:=List.mem_map.1 hx
    exact List.mem_map.2 ⟨i,of_decide_eq_true (List.all_eq_true.1 hp i hi),rfl⟩
   rw [qna (qgm hok (h a ha))]
   refine ⟨?_,hsub⟩
   have hsl:=Inc.sublist (qgm hok (h b hb)) (qgm hok (h a ha)) hsub
   refine Nat.lt_of_le_of_ne hsl.length_le fun hl=>hba (lab_inj hok (h b hb).ran (h a ha).ran (hsl.eq_of_length hl))
 ·rintro hall y hy hsm
  obtain ⟨b,hb,rfl⟩:=List.mem_map.1 hy
  rw [qna (qgm hok (h a ha))] at hsm
  have hb2:=hall b hb
  rw [Bool.or_eq_true,decide_eq_true_eq,Bool.not_eq_true'] at hb2
  rcases hb2 with rfl | hb2
  ·exact absurd hsm.1 (by omega)
  ·have:qcw b a=true:=List.all_eq_true.2 fun i hi=>decide_eq_true ((qko hok (h a ha).ran ((h b hb).ran i hi)).1 (hsm.2 _ (List.mem_map.2 ⟨i,hi,rfl⟩)))
   rw [this] at hb2
   cases hb2
theorem lab_many (n:List (List Int)):qfz (n.map (qak s))=qec n:=by
 unfold qfz qec
 rw [List.length_map,List.any_map]
 congr 2
 funext m
 simp [qak]
theorem qo4 {n:List (List Int)} (h:∀ m∈n,qbi s m):∀ m∈qeq n,qbi s m:=fun m hm=>h m (List.mem_filter.1 hm).1
theorem qpr (hok:qai s):∀ bs ls:List (List Int),(∀ a∈bs,qbi s a)→(∀ m∈ls,qbi s m)→qct (bs.map (qak s)) (ls.map (qak s))=(qdv bs ls).map (List.map (qak s))
 | [],ls,_,_=>rfl
 | a :: bs,ls,hb,h=>by
  have ha:=hb a (by simp)
  rw [List.map_cons,qct,qdv,lab_next hok ha h,lab_many]
  split
  ·rfl
  ·rw [lab_least hok (qsq ls a) (qli ha h)]
   exact qpr hok bs _ (fun b hb'=>hb b (by simp [hb'])) (qo4 (qli ha h))
end
section
set_option maxHeartbeats 4000000
set_option maxRecDepth 100000
/- The reference's compareSets,part,meets and with: walked. -/
open Go.Shelf
abbrev RIs:Rdr (List Int):=RSl qac 1
theorem RIs.good:Good RIs 1:=RSl.good qac.good
theorem qur (S S':Nat→Prop) (a b:List Int) (va vb:Value) (w:World) (ha:RIs S w a [va]) (hb:RIs S' w b [vb]) :
  Calls Tryz.prog 224 #[va,vb] w fun e w'=>e = .returned (.int .i64 (qb2 a b))∧Ext w w':=by
 obtain ⟨A,c,rfl,hc,hc0⟩:=ha.val
 obtain ⟨A',c',rfl,hc',hc0'⟩:=hb.val
 have HA:=Hd ha
 have HB:=Hd hb
 clear ha hb
 go_enter Tryz.func224,Tryz.ntmps224
 go_wp2_with fail
 go_loopw [5] (fun vi wr=>∃ k:Nat,k≤a.length∧k≤b.length∧vi = .int .i64 k∧Ext w wr∧Hid (qb2 a b=qaz qag (a.drop k) (b.drop k))) (fun vi _=>a.length-(intOf vi).toNat)
 case atStart=>exact ⟨0,Nat.zero_le _,Nat.zero_le _,rfl,Ext.refl _,(rfl:qb2 a b=qaz qag a b)⟩
 case round =>
  obtain ⟨k,hka,hkb,rfl,hE,hv⟩:=hrel
  have z1:(0:Int)≤(k:Int):=by omega
  by_cases h1:k<a.length
  ·by_cases h2:k<b.length
   ·obtain ⟨b1,o1,c1,rfl,hb1,_,_,hr1,hcell1⟩:=(RIs.good.bel HA.out hE).get k h1
    obtain rfl:=hr1.1
    have g1:=(by simpa using hcell1.get 0 _:wr.cell? ⟨b1,o1+k,none⟩=some (.int .i64 a[k]))
    obtain ⟨b2,o2,c2,rfl,hb2,_,_,hr2,hcell2⟩:=(RIs.good.bel HB.out hE).get k h2
    obtain rfl:=hr2.1
    have g2:=(by simpa using hcell2.get 0 _:wr.cell? ⟨b2,o2+k,none⟩=some (.int .i64 b[k]))
    have hst:qb2 a b=if qag a[k] b[k]=0 then qaz qag (a.drop (k+1)) (b.drop (k+1)) else qag a[k] b[k]:=by
     rw [hv.out,List.drop_eq_getElem_cons h1,List.drop_eq_getElem_cons h2,qaz]
    have hka1:k+1≤a.length:=h1
    have hkb1:k+1≤b.length:=h2
    have z2:(k:Int)<(a.length:Int):=by omega
    have z3:(k:Int)<(b.length:Int):=by omega
    obtain ⟨x,hx⟩:∃ x,a[k]=x:=⟨_,rfl⟩
    obtain ⟨y,hy⟩:∃ y,b[k]=y:=⟨_,rfl⟩
    rw [hx] at g1 hst
    rw [hy] at g2 hst
    clear hr1 hr2 hcell1 hcell2 hx hy hv
    rcases Int.lt_trichotomy x y with hlt | rfl | hlt
    ·have HV:Hid (qb2 a b = -1):=by show _=_;rw [hst];simp [qag,hlt]
     have hne:¬ x=y:=by omega
     clear hst
     go_wp2_with fail
     (refine qaw (by kernel_rfl) (by kernel_rfl) ?_;(repeat (first | go_big_quiet_step ((fail)) | quiet_step ((fail))));refine wpQuiet_nil ?_)
     intro w4 hx4
     have g14:=Ext.keep hx4 g1
     have g24:=Ext.keep hx4 g2
     have hb14:b1<w4.heap.size:=Nat.lt_of_lt_of_le hb1 hx4.size
     have hb24:b2<w4.heap.size:=Nat.lt_of_lt_of_le hb2 hx4.size
     go_wp2_with fail
     (refine qaw (by kernel_rfl) (by kernel_rfl) ?_;(repeat (first | go_big_quiet_step ((fail)) | quiet_step ((fail))));refine wpQuiet_nil ?_)
     intro w5 hx5
     go_wp2_with fail
     go_ret
     exact ⟨by rw [HV.out];rfl,(hE.trans' hx4).trans' hx5⟩
    ·have HV:Hid (qb2 a b=qaz qag (a.drop (k+1)) (b.drop (k+1))):=by show _=_;rw [hst];simp [qag]
     clear hst
     go_wp2_with fail
     (refine qaw (by kernel_rfl) (by kernel_rfl) ?_;(repeat (first | go_big_quiet_step ((fail)) | quiet_step ((fail))));refine wpQuiet_nil ?_)
     intro w4 hx4
     go_wp2_with fail
     go_roundw
     case rel=>exact ⟨k+1,hka1,hkb1,by go_num,hE.trans' hx4,HV.out⟩
     case measure=>simp [intOf];omega
    ·have hnl:¬ x<y:=by omega
     have HV:Hid (qb2 a b=1):=by show _=_;rw [hst];simp [qag,hlt,hnl]
     have hne:¬ x=y:=by omega
     clear hst
     go_wp2_with fail
     (refine qaw (by kernel_rfl) (by kernel_rfl) ?_;(repeat (first | go_big_quiet_step ((fail)) | quiet_step ((fail))));refine wpQuiet_nil ?_)
     intro w4 hx4
     have g14:=Ext.keep hx4 g1
     have g24:=Ext.keep hx4 g2
     have hb14:b1<w4.heap.size:=Nat.lt_of_lt_of_le hb1 hx4.size
     have hb24:b2<w4.heap.size:=Nat.lt_of_lt_of_le hb2 hx4.size
     go_wp2_with fail
     (refine qaw (by kernel_rfl) (by kernel_rfl) ?_;(repeat (first | go_big_quiet_step ((fail)) | quiet_step ((fail))));refine wpQuiet_nil ?_)
     intro w5 hx5
     go_wp2_with fail
     go_ret
     exact ⟨by rw [HV.out];rfl,(hE.trans' hx4).trans' hx5⟩
   ·obtain rfl:k=b.length:=by omega
    have HV:Hid (qb2 a b=1):=by
     show _=_
     rw [hv.out,List.drop_length,List.drop_eq_getElem_cons h1]
     rfl
    have z2:((b.length:Nat):Int)<(a.length:Int):=by omega
    have z3:¬ ((a.length:Nat):Int)<(b.length:Int):=by omega
    clear hv
    go_wp2_with fail
    go_ret
    exact ⟨by rw [HV.out];rfl,hE⟩
  ·obtain rfl:k=a.length:=by omega
   by_cases h2:a.length<b.length
   ·have HV:Hid (qb2 a b = -1):=by
     show _=_
     rw [hv.out,List.drop_length,List.drop_eq_getElem_cons h2]
     rfl
    have z2:((a.length:Nat):Int)<(b.length:Int):=by omega
    clear hv
    go_wp2_with fail
    go_ret
    exact ⟨by rw [HV.out];rfl,hE⟩
   ·have HV:Hid (qb2 a b=0):=by
     show _=_
     rw [hv.out,List.drop_length,List.drop_of_length_le (by omega)]
     rfl
    have z2:¬ ((a.length:Nat):Int)<(b.length:Int):=by omega
    have z3:¬ ((b.length:Nat):Int)<(a.length:Int):=by omega
    clear hv
    go_wp2_with fail
    go_ret
    exact ⟨by rw [HV.out];rfl,hE⟩
theorem qsn {a b:List Int} {i:Nat} (h:i<a.length) (hn:a[i]∉b):qcw a b=false:=by
 rw [qcw,List.all_eq_false]
 exact ⟨a[i],List.getElem_mem h,by simpa using hn⟩
theorem quu {a b:List Int} {i:Nat} (h:i<a.length) (hm:a[i]∈b) (ha:qcw (a.take i) b=true):qcw (a.take (i+1)) b=true:=by
 rw [qcw,List.take_succ_eq_append_getElem h,List.all_append,List.all_cons,List.all_nil,Bool.and_true,Bool.and_eq_true]
 exact ⟨ha,decide_eq_true hm⟩
theorem part_c (S S':Nat→Prop) (a b:List Int) (va vb:Value) (w:World) (ha:RIs S w a [va]) (hb:RIs S' w b [vb]) (hra:Ris a) (hrb:Ris b) :
  Calls Tryz.prog 225 #[va,vb] w fun e w'=>e = .returned (.bool (qcw a b))∧Ext w w':=by
 obtain ⟨A,c,rfl,hc,hc0⟩:=ha.val
 obtain ⟨A',c',rfl,hc',hc0'⟩:=hb.val
 have HA:=Hd ha
 have HB:=Hd hb
 have hra':∀ i j,(hij:i<j)→(hj:j<a.length)→a[i]'(by omega)<a[j]:=fun i j hij hj=>List.pairwise_iff_getElem.1 hra i j (by omega) hj hij
 have hrb':∀ i j,(hij:i<j)→(hj:j<b.length)→b[i]'(by omega)<b[j]:=fun i j hij hj=>List.pairwise_iff_getElem.1 hrb i j (by omega) hj hij
 have HRA:=Hd hra'
 have HRB:=Hd hrb'
 clear ha hb hra' hrb' hra hrb
 go_enter Tryz.func225,Tryz.ntmps225
 go_wp2_with fail
 go_loopw [5,6] (fun vk vi wr=>∃ i k:Nat,i≤a.length∧k≤b.length∧vk = .int .i64 k∧vi = .int .i64 i∧Ext w wr∧Hid (∀ j i',(hj:j<k)→(hj':j<b.length)→(hi:i≤i')→(hi':i'<a.length)→b[j]<a[i'])∧Hid (qcw (a.take i) b=true)) (fun _ vi _=>a.length-(intOf vi).toNat)
 case atStart=>exact ⟨0,0,Nat.zero_le _,Nat.zero_le _,rfl,rfl,Ext.refl _,fun j i' hj=>absurd hj (by omega),(rfl:qcw [] b=true)⟩
 case round =>
  obtain ⟨i,k,hi,hk,rfl,rfl,hE,hlow,hpre⟩:=hrel
  by_cases hil:i<a.length
  ·have z1:(0:Int)≤(i:Int):=by omega
   have z2:(i:Int)<(a.length:Int):=by omega
   have hi1:i+1≤a.length:=hil
   obtain ⟨x,hx⟩:∃ x,a[i]=x:=⟨_,rfl⟩
   have HX:=Hd hx
   have hbx:∀ W,Ext w W→∃ b1 o1,A=some ⟨b1,o1,none⟩∧b1<W.heap.size∧W.cell? ⟨b1,o1+i,none⟩=some (.int .i64 x):=fun W hW=>by
    obtain ⟨b1,o1,c1,e,hb1,_,_,hr1,hcell1⟩:=(RIs.good.bel HA.out hW).get i hil
    obtain rfl:=hr1.1
    exact ⟨b1,o1,e,hb1,by rw [← hx];simpa using hcell1.get 0 _⟩
   obtain ⟨b1,o1,rfl,_,_⟩:=hbx wr hE
   have HBX:Hid (∀ W,Ext w W→b1<W.heap.size∧W.cell? ⟨b1,o1+i,none⟩=some (.int .i64 x)):=fun W hW=>by
    obtain ⟨b1',o1',e,h1,h2⟩:=hbx W hW
    simp only [Option.some.injEq,Addr.mk.injEq,and_true] at e
    obtain ⟨rfl,rfl⟩:=e
    exact ⟨h1,h2⟩
   have hlow0:Hid (∀ j,(hj:j<k)→(hj':j<b.length)→b[j]<x):=fun j hj hj'=>by rw [← hx];exact hlow.out j i hj hj' (Nat.le_refl _) hil
   clear hbx hx
   go_wp2_with fail
   obtain ⟨w7,rfl⟩:∃ w7,w7=wr:=⟨_,rfl⟩
   go_loopw [5] (fun vk wr=>∃ k:Nat,k≤b.length∧vk = .int .i64 k∧Ext w wr∧Hid (∀ j,(hj:j<k)→(hj':j<b.length)→b[j]<x)) (fun vk _=>b.length-(intOf vk).toNat)
   case atStart=>exact ⟨k,hk,rfl,hE,hlow0.out⟩
   case round =>
    clear hlow0 hlow hk hE
    obtain ⟨k,hk,rfl,hE,hlo⟩:=hrel
    obtain ⟨q1,q2⟩:=HBX.out wr hE
    have y1:(0:Int)≤(k:Int):=by omega
    by_cases hkl:k<b.length
    ·obtain ⟨b2,o2,c2,rfl,hb2,_,_,hr2,hcell2⟩:=(RIs.good.bel HB.out hE).get k hkl
     obtain rfl:=hr2.1
     have g2:=(by simpa using hcell2.get 0 _:wr.cell? ⟨b2,o2+k,none⟩=some (.int .i64 b[k]))
     have y2:(k:Int)<(b.length:Int):=by omega
     have y3:¬ (b.length:Int)≤(k:Int):=by omega
     have hk1:k+1≤b.length:=hkl
     obtain ⟨y,hy⟩:∃ y,b[k]=y:=⟨_,rfl⟩
     rw [hy] at g2
     have HY:=Hd hy
     clear hr2 hcell2 hy
     rcases Int.lt_trichotomy y x with hlt | rfl | hlt
     ·have HLO:Hid (∀ j,(hj:j<k+1)→(hj':j<b.length)→b[j]<x):=fun j hj hj'=>by
       rcases Nat.lt_or_ge j k with h | h
       ·exact hlo.out j h hj'
       ·obtain rfl:j=k:=by omega
        rw [HY.out]
        exact hlt
      clear hlo
      go_wp2_with fail
      (refine qaw (by kernel_rfl) (by kernel_rfl) ?_;(repeat (first | go_big_quiet_step ((fail)) | quiet_step ((fail))));refine wpQuiet_nil ?_)
      intro w4 hx4
      go_wp2_with fail
      go_roundw
      case rel=>exact ⟨k+1,hk1,by go_num,hE.trans' hx4,HLO.out⟩
      case measure=>simp [intOf];omega
     ·have HPRE:Hid (qcw (a.take (i+1)) b=true):=quu hil (by rw [HX.out,← HY.out];exact List.getElem_mem _) hpre.out
      have HLO:Hid (∀ j i',(hj:j<k)→(hj':j<b.length)→(hi:i+1≤i')→(hi':i'<a.length)→b[j]<a[i']):=fun j i' hj hj' hi hi'=>by
       have h1:=hlo.out j hj hj'
       have h2:=HRA.out i i' (by omega) hi'
       rw [HX.out] at h2
       omega
      clear hlo hpre
      go_wp2_with fail
      (refine qaw (by kernel_rfl) (by kernel_rfl) ?_;(repeat (first | go_big_quiet_step ((fail)) | quiet_step ((fail))));refine wpQuiet_nil ?_)
      intro w4 hx4
      obtain ⟨q3,q4⟩:=HBX.out w4 (hE.trans' hx4)
      have g3:=Ext.keep hx4 g2
      go_wp2_with fail
      (refine qaw (by kernel_rfl) (by kernel_rfl) ?_;(repeat (first | go_big_quiet_step ((fail)) | quiet_step ((fail))));refine wpQuiet_nil ?_)
      intro w5 hx5
      go_wp2_with fail
      go_roundw
      case rel=>exact ⟨i+1,k,hi1,hk,rfl,by go_num,(hE.trans' hx4).trans' hx5,HLO.out,HPRE.out⟩
      case measure=>simp [intOf];omega
     ·have HNO:Hid (qcw a b=false):=qsn hil (by
       intro hm
       obtain ⟨j,hj,e⟩:=List.mem_iff_getElem.1 hm
       rw [HX.out] at e
       rcases Nat.lt_trichotomy j k with h | rfl | h
       ·have:=hlo.out j h hj
        omega
       ·rw [HY.out] at e
        omega
       ·have:=HRB.out k j h hj
        rw [HY.out] at this
        omega)
      have hne:(y != x)=true:=by rw [bne_iff_ne];omega
      have hnl:¬ y<x:=by omega
      clear hlo hpre
      go_wp2_with fail
      (refine qaw (by kernel_rfl) (by kernel_rfl) ?_;(repeat (first | go_big_quiet_step ((fail)) | quiet_step ((fail))));refine wpQuiet_nil ?_)
      intro w4 hx4
      obtain ⟨q3,q4⟩:=HBX.out w4 (hE.trans' hx4)
      have g3:=Ext.keep hx4 g2
      go_wp2_with fail
      (refine qaw (by kernel_rfl) (by kernel_rfl) ?_;(repeat (first | go_big_quiet_step ((fail)) | quiet_step ((fail))));refine wpQuiet_nil ?_)
      intro w5 hx5
      go_wp2_with fail
      go_ret
      exact ⟨by rw [HNO.out];rfl,(hE.trans' hx4).trans' hx5⟩
    ·obtain rfl:k=b.length:=by omega
     have HNO:Hid (qcw a b=false):=qsn hil (by
      intro hm
      obtain ⟨j,hj,e⟩:=List.mem_iff_getElem.1 hm
      rw [HX.out] at e
      have:=hlo.out j hj hj
      omega)
     clear hlo hpre
     go_wp2_with fail
     (refine qaw (by kernel_rfl) (by kernel_rfl) ?_;(repeat (first | go_big_quiet_step ((fail)) | quiet_step ((fail))));refine wpQuiet_nil ?_)
     intro w4 hx4
     go_wp2_with fail
     (refine qaw (by kernel_rfl) (by kernel_rfl) ?_;(repeat (first | go_big_quiet_step ((fail)) | quiet_step ((fail))));refine wpQuiet_nil ?_)
     intro w5 hx5
     go_wp2_with fail
     go_ret
     exact ⟨by rw [HNO.out];rfl,(hE.trans' hx4).trans' hx5⟩
  ·obtain rfl:i=a.length:=by omega
   have HF:Hid (qcw a b=true):=by have h:=hpre.out;rw [List.take_length] at h;exact h
   go_wp2_with fail
   go_ret
   exact ⟨by rw [HF.out];rfl,hE⟩
theorem meets_yes {a b:List Int} {i:Nat} (h:i<a.length) (hm:a[i]∈b):qev a b=true:=List.any_eq_true.2 ⟨a[i],List.getElem_mem h,decide_eq_true hm⟩
theorem quy {a b:List Int} {i:Nat} (h:i<a.length) (hm:a[i]∉b) (ha:qev (a.take i) b=false):qev (a.take (i+1)) b=false:=by
 rw [qev,List.take_succ_eq_append_getElem h,List.any_append,List.any_cons,List.any_nil,Bool.or_false]
 rw [qev] at ha
 rw [ha,decide_eq_false hm]
 rfl
theorem meets_c (S S':Nat→Prop) (a b:List Int) (va vb:Value) (w:World) (ha:RIs S w a [va]) (hb:RIs S' w b [vb]) (hrb:Ris b) :
  Calls Tryz.prog 157 #[va,vb] w fun e w'=>e = .returned (.bool (qev a b))∧Ext w w':=by
 obtain ⟨A,c,rfl,hc,hc0⟩:=ha.val
 obtain ⟨A',c',rfl,hc',hc0'⟩:=hb.val
 have HA:=Hd ha
 have hp:=fun x W (hx:I64 x) (hW:Ext w W)=>part_c (fun _=>True) S' [x] b _ _ _ (qjy (S:=fun _=>True) W x hx trivial) (RIs.good.bel hb (hW.trans' ((Ext.refl W).alloc _))) (List.pairwise_singleton _ _) hrb
 have HP:=Hd hp
 clear ha hb hp hrb
 go_enter Tryz.func157,Tryz.ntmps157
 go_wp2_with fail
 go_loopw [5] (fun vi wr=>∃ k:Nat,k≤a.length∧vi = .int .i64 k∧Ext w wr∧Hid (qev (a.take k) b=false)) (fun vi _=>a.length-(intOf vi).toNat)
 case atStart=>exact ⟨0,Nat.zero_le _,rfl,Ext.refl _,(rfl:qev [] b=false)⟩
 case round =>
  obtain ⟨k,hk,rfl,hE,hno⟩:=hrel
  by_cases hlt:k<a.length
  ·obtain ⟨b1,o1,c1,rfl,hb1,_,_,hr1,hcell1⟩:=(RIs.good.bel HA.out hE).get k hlt
   have hi64:=hr1.2
   obtain rfl:=hr1.1
   have g1:=(by simpa using hcell1.get 0 _:wr.cell? ⟨b1,o1+k,none⟩=some (.int .i64 a[k]))
   have hY:=meets_yes (b:=b) hlt
   have hN:=fun h=>quy (b:=b) hlt h hno.out
   have hk1:k+1≤a.length:=hlt
   obtain ⟨x,hx⟩:∃ x,a[k]=x:=⟨_,rfl⟩
   rw [hx] at g1 hY hN hi64
   have hpx:=HP.out x wr hi64 hE
   clear hr1 hcell1 hx
   by_cases hm:x∈b
   ·have HV:=Hd (hY hm)
    rw [show qcw [x] b=true from by simp [qcw,hm]] at hpx
    clear hY hN hm
    go_wp2_with fail
    refine hpx.mono ?_
    rintro e w4 ⟨rfl,hx4⟩
    go_wp2_with fail
    go_ret
    exact ⟨by rw [HV.out];rfl,hE.trans' (((Ext.refl wr).alloc _).trans' hx4)⟩
   ·have HV:=Hd (hN hm)
    rw [show qcw [x] b=false from by simp [qcw,hm]] at hpx
    clear hY hN hm
    go_wp2_with fail
    refine hpx.mono ?_
    rintro e w4 ⟨rfl,hx4⟩
    go_wp2_with fail
    go_roundw
    case rel=>exact ⟨k+1,hk1,by go_num,hE.trans' (((Ext.refl wr).alloc _).trans' hx4),HV.out⟩
    case measure=>simp [intOf];omega
  ·obtain rfl:k=a.length:=by omega
   have HF:Hid (qev a b=false):=by have h:=hno.out;rw [List.take_length] at h;exact h
   go_wp2_with fail
   go_ret
   exact ⟨by rw [HF.out];rfl,hE⟩
end
end Go.Proofs.YtegenalcheooeaaGreat
