/- Of the proof of a law of the suites: PRef, RSets, RWith, RInsert, RLeast. -/
import Derived.Test.YtegenalcheooeaaGreatRM02
set_option linter.unusedSectionVars false
set_option linter.unusedSimpArgs false
set_option linter.unusedVariables false
namespace Go.Proofs.YtegenalcheooeaaGreat
open Go.RowKit
attribute [local go_sem] cell?_exto
section

theorem qkb {α:Type} {cf:α->α->Int} (ho:qdh cf):∀ (l l':List α),l.Pairwise (fun a b=>cf a b<0)->l'.Pairwise (fun a b=>cf a b<0)->(∀ y,y∈l↔y∈l')->l=l'
 | [],l',_,_,h=>by
  cases l' with
  | nil=>rfl
  | cons y l'=>exact absurd ((h y).2 (by simp)) (by simp)
 | x :: l,[],_,_,h=>absurd ((h x).1 (by simp)) (by simp)
 | x :: l,y :: l',h1,h2,h=>by
  obtain ⟨a1,a2⟩:=List.pairwise_cons.1 h1
  obtain ⟨b1,b2⟩:=List.pairwise_cons.1 h2
  have irr:∀ z,¬ cf z z<0:=fun z=>by have:=ho.refl z;omega
  have e:x=y:=by
   rcases List.mem_cons.1 ((h x).1 (by simp)) with e | e
   ·exact e
   ·rcases List.mem_cons.1 ((h y).2 (by simp)) with e' | e'
    ·exact e'.symm
    ·exact absurd (ho.trans _ _ _ (a1 y e') (b1 x e)) (irr _)
  subst e
  congr 1
  refine qkb ho l l' a2 b2 fun z=>?_
  have hz:=h z
  simp only [List.mem_cons] at hz
  constructor
  ·intro hm
   rcases hz.1 (.inr hm) with e | e
   ·exact absurd (e ▸ a1 z hm) (irr _)
   ·exact e
  ·intro hm
   rcases hz.2 (.inr hm) with e | e
   ·exact absurd (e ▸ b1 z hm) (irr _)
   ·exact e
def qcd (a b:List Int):Int:=qa1 qai a b
theorem qgf:qdh qcd:=ordL ordI
def Ris (l:List Int):Prop:=l.Pairwise (· < ·)
def bsR (l:List (List Int)) (x:List Int) (k:Nat):Bool:=match l[k]? with | some y=>decide (qcd y x<0) | none=>false
def atR (l:List (List Int)) (x:List Int):Nat:=bsI (bsR l x) l.length 0 l.length
def qa4 (l:List (List Int)) (x:List Int):List (List Int):=if l[atR l x]? = some x then l else l.take (atR l x)++[x]++l.drop (atR l x)
def qc9 (a b:List Int):Bool:=a.all fun x=>decide (x∈b)
def qe3 (a b:List Int):Bool:=a.any fun x=>decide (x∈b)
def qbn:List Int->Int->List Int
 | [],x=>[x]
 | y :: ys,x=>if x<y then x :: y :: ys else y :: qbn ys x
def qg9 (a m:List Int):List (List Int):=if qe3 m a then [m] else a.map (qbn m)
def qcc (ls:List (List Int)) (a:List Int):List (List Int):=ls.flatMap (qg9 a)
def qgr (ls:List (List Int)) (a:List Int):List (List Int):=(qcc ls a).foldl qa4 []
def qey (n:List (List Int)):Bool:=decide (2000<n.length) || n.any fun m=>decide (64<m.length)
def qfd (l:List (List Int)):List (List Int):=l.filter fun a=>l.all fun b=>decide (b=a) || !qc9 b a
def qd5:List (List Int)->List (List Int)->Option (List (List Int))
 | [],ls=>some ls
 | a :: bs,ls=>if qey (qgr ls a) then none else qd5 bs (qfd (qgr ls a))
def StrS (l:List (List Int)):Prop:=l.Pairwise fun a b=>qcd a b<0
theorem qj9 {l:List (List Int)} {x:List Int} {h:Nat} (hh:h<l.length):bsR l x h=decide (qcd l[h] x<0):=by simp [bsR,List.getElem?_eq_getElem hh]
theorem bsR_mono {l:List (List Int)} (h:StrS l) (x:List Int) (a b:Nat) (hab:a<=b) (hb:bsR l x b=true):bsR l x a=true:=by
 have hbl:b<l.length:=by
  refine Nat.lt_of_not_le fun hle=>?_
  simp [bsR,List.getElem?_eq_none hle] at hb
 rw [qj9 hbl,decide_eq_true_eq] at hb
 rw [qj9 (by omega),decide_eq_true_eq]
 rcases Nat.lt_or_ge a b with hlt | hge
 ·exact qgf.trans _ _ _ (List.pairwise_iff_getElem.1 h a b (by omega) hbl hlt) hb
 ·have:a=b:=by omega
  subst this
  exact hb
theorem atR_spec {l:List (List Int)} (h:StrS l) (x:List Int):(∀ k,k<atR l x->bsR l x k=true)∧∀ k,atR l x<=k->bsR l x k=false :=
 qkz _ l.length (bsR_mono h x) _ _ _ (Nat.zero_le _) (by omega) (fun k hk=>by omega) fun k hk=>by simp [bsR,List.getElem?_eq_none hk]
theorem atR_le (l:List (List Int)) (x:List Int):atR l x<=l.length:=(qkc _ _ 0 l.length (Nat.zero_le _)).2
theorem qni (l:List (List Int)) (x y:List Int):y∈qa4 l x↔y∈l∨y=x:=by
 unfold qa4
 split
 ·rename_i h
  constructor
  ·exact .inl
  ·rintro (h' | rfl)
   ·exact h'
   ·exact List.mem_of_getElem? h
 ·constructor
  ·intro h
   rcases List.mem_append.1 h with h | h
   ·rcases List.mem_append.1 h with h | h
    ·exact .inl (List.mem_of_mem_take h)
    ·exact .inr (List.mem_singleton.1 h)
   ·exact .inl (List.mem_of_mem_drop h)
  ·rintro (h | rfl)
   ·rw [<- List.take_append_drop (atR l x) l] at h
    rcases List.mem_append.1 h with h | h
    ·simp [h]
    ·simp [h]
   ·simp
theorem insR_str {l:List (List Int)} (h:StrS l) (x:List Int):StrS (qa4 l x):=by
 unfold qa4
 split
 ·exact h
 ·rename_i hne
  have hs:=atR_spec h x
  have hlt:∀ y∈l.take (atR l x),qcd y x<0:=fun y hy=>by
   obtain ⟨i,hi,rfl⟩:=List.mem_iff_getElem.1 hy
   rw [List.length_take] at hi
   have:=hs.1 i (by omega)
   rw [qj9 (by omega),decide_eq_true_eq] at this
   rw [List.getElem_take]
   exact this
  have hgt:∀ y∈l.drop (atR l x),qcd x y<0:=fun y hy=>by
   obtain ⟨i,hi,rfl⟩:=List.mem_iff_getElem.1 hy
   rw [List.length_drop] at hi
   have hat:atR l x<l.length:=by omega
   have h0:=hs.2 (atR l x) (Nat.le_refl _)
   rw [qj9 hat,decide_eq_false_iff_not] at h0
   have h3:qcd l[atR l x] x≠0:=fun e=>hne (by rw [List.getElem?_eq_getElem hat,qgf.eq _ _ e])
   have h4:=qgf.sgn x l[atR l x]
   have h5:qcd x l[atR l x]<0:=by omega
   rw [List.getElem_drop]
   rcases Nat.eq_zero_or_pos i with rfl | hp
   ·exact h5
   ·exact qgf.trans _ _ _ h5 (List.pairwise_iff_getElem.1 h _ _ hat (by omega) (by omega))
  refine List.pairwise_append.2 ⟨List.pairwise_append.2 ⟨List.Pairwise.sublist (List.take_sublist _ _) h,List.pairwise_singleton _ _,fun a ha b hb=>?_⟩,List.Pairwise.sublist (List.drop_sublist _ _) h,fun a ha b hb=>?_⟩
  ·rw [List.mem_singleton.1 hb]
   exact hlt a ha
  ·rcases List.mem_append.1 ha with ha | ha
   ·exact qgf.trans _ _ _ (hlt a ha) (hgt b hb)
   ·rw [List.mem_singleton.1 ha]
    exact hgt b hb
theorem qht:∀ (L acc:List (List Int)),StrS acc->StrS (L.foldl qa4 acc)∧∀ y,y∈L.foldl qa4 acc↔y∈acc∨y∈L
 | [],acc,h=>⟨h,fun y=>by simp⟩
 | x :: L,acc,h=>by
  obtain ⟨h1,h2⟩:=qht L (qa4 acc x) (insR_str h x)
  refine ⟨h1,fun y=>?_⟩
  rw [List.foldl_cons,h2,qni,List.mem_cons,or_assoc]
theorem qmd (l:List (List Int)) (x:List Int):l.length<=(qa4 l x).length∧(qa4 l x).length<=l.length+1:=by
 have:=atR_le l x
 unfold qa4
 split
 ·omega
 ·simp only [List.length_append,List.length_take,List.length_drop,List.length_cons,List.length_nil]
  omega
theorem qre:∀ (L acc:List (List Int)),acc.length<=(L.foldl qa4 acc).length
 | [],acc=>Nat.le_refl _
 | x :: L,acc=>Nat.le_trans (qmd acc x).1 (qre L (qa4 acc x))
theorem qis (x y:Int):∀ m:List Int,y∈qbn m x↔y∈m∨y=x
 | []=>by simp [qbn]
 | z :: m=>by
  have ih:=qis x y m
  rw [qbn]
  split
  ·simp only [List.mem_cons]
   constructor
   ·rintro (h | h)
    ·exact .inr h
    ·exact .inl h
   ·rintro (h | h)
    ·exact .inr h
    ·exact .inl h
  ·rw [List.mem_cons,ih,List.mem_cons,or_assoc]
theorem qsj (x:Int):∀ m:List Int,Ris m->x∉m->Ris (qbn m x)
 | [],_,_=>List.pairwise_singleton _ _
 | z :: m,h,hx=>by
  obtain ⟨h1,h2⟩:=List.pairwise_cons.1 h
  rw [List.mem_cons,not_or] at hx
  rw [qbn]
  split
  ·rename_i hlt
   refine List.pairwise_cons.2 ⟨fun y hy=>?_,h⟩
   rcases List.mem_cons.1 hy with rfl | hy
   ·exact hlt
   ·have:=h1 y hy
    omega
  ·rename_i hge
   refine List.pairwise_cons.2 ⟨fun y hy=>?_,qsj x m h2 hx.2⟩
   rcases (qis x y m).1 hy with hy | rfl
   ·exact h1 y hy
   ·omega
theorem qtx (x:Int):∀ m:List Int,(qbn m x).length=m.length+1
 | []=>rfl
 | z :: m=>by
  rw [qbn]
  split
  ·rfl
  ·rw [List.length_cons,qtx x m,List.length_cons]
def lbI (s:Sy) (i:Int):Lb:=s.ls.getD i.toNat ⟨0,[]⟩
def qal (s:Sy) (m:List Int):List Lb:=m.map (lbI s)
structure qbp (s:Sy) (m:List Int):Prop where
 ris:Ris m
 ran:∀ i∈m,0<=i∧i<s.ls.length
variable {s:Sy}
theorem qj3 {k:Nat} (h:k<s.ls.length):lbI s (k:Int)=s.ls[k]:=by simp [lbI,List.getD_eq_getElem?_getD,List.getElem?_eq_getElem h]
theorem qly (hok:qah s) {i j:Int} (hi:0<=i∧i<s.ls.length) (hj:0<=j∧j<s.ls.length):qan (lbI s i) (lbI s j)<0↔i<j:=by
 obtain ⟨a,rfl⟩:∃ a:Nat,i=(a:Int):=⟨i.toNat,by omega⟩
 obtain ⟨b,rfl⟩:∃ b:Nat,j=(b:Int):=⟨j.toNat,by omega⟩
 have ha:a<s.ls.length:=by omega
 have hb:b<s.ls.length:=by omega
 rw [qj3 ha,qj3 hb]
 have hinc:=qqp hok
 constructor
 ·intro h
  refine Int.not_le.1 fun hle=>?_
  rcases Nat.lt_or_ge b a with hlt | hge
  ·exact qh8 _ (qc2.trans _ _ _ h (hinc.get hlt ha))
  ·obtain rfl:a=b:=by omega
   exact qh8 _ h
 ·intro h
  exact hinc.get (by omega) hb
theorem lbI_inj (hok:qah s) {i j:Int} (hi:0<=i∧i<s.ls.length) (hj:0<=j∧j<s.ls.length) (h:lbI s i=lbI s j):i=j:=by
 have h1:=qly hok hi hj
 have h2:=qly hok hj hi
 rw [h] at h1
 rw [h] at h2
 have:=qh8 (lbI s j)
 have a:¬ i<j:=fun h=>this (h1.2 h)
 have b:¬ j<i:=fun h=>this (h2.2 h)
 omega
theorem lbI_eq (hok:qah s) {i j:Int} (hi:0<=i∧i<s.ls.length) (hj:0<=j∧j<s.ls.length):qan (lbI s i) (lbI s j)=0↔qai i j=0:=by
 rw [qc2.iff,ordI.iff]
 exact ⟨lbI_inj hok hi hj,fun h=>by rw [h]⟩
theorem qjk (hok:qah s):∀ a b:List Int,(∀ i∈a,0<=i∧i<s.ls.length)->(∀ i∈b,0<=i∧i<s.ls.length)->(qej (qal s a) (qal s b)<0↔qcd a b<0)
 | [],[],_,_=>Iff.rfl
 | [],_ :: _,_,_=>Iff.rfl
 | _ :: _,[],_,_=>Iff.rfl
 | x :: a,y :: b,ha,hb=>by
  have ih:=qjk hok a b (fun i hi=>ha i (by simp [hi])) fun i hi=>hb i (by simp [hi])
  have hx:=ha x (by simp)
  have hy:=hb y (by simp)
  have he:=lbI_eq hok hx hy
  have hl:=qly hok hx hy
  simp only [qej,qcd,qal,List.map_cons,qa1] at ih ⊢
  by_cases h:qai x y=0
  ·rw [if_pos (he.2 h),if_pos h]
   exact ih
  ·rw [if_neg fun h'=>h (he.1 h'),if_neg h,hl]
   unfold qai at h ⊢
   split at h
   ·rename_i hlt
    simp [hlt]
   ·split at h
    ·rename_i h1 h2
     simp [h1,h2]
    ·exact absurd rfl h
theorem lab_inj (hok:qah s) {a b:List Int} (ha:∀ i∈a,0<=i∧i<s.ls.length) (hb:∀ i∈b,0<=i∧i<s.ls.length) (h:qal s a=qal s b):a=b:=by
 have h1:=qjk hok a b ha hb
 have h2:=qjk hok b a hb ha
 rw [h] at h1
 rw [h] at h2
 have h3:¬ qej (qal s b) (qal s b)<0:=by have:=qes.refl (qal s b);omega
 refine qgf.eq a b ?_
 have a1:¬ qcd a b<0:=fun h=>h3 (h1.2 h)
 have a2:¬ qcd b a<0:=fun h=>h3 (h2.2 h)
 have:=qgf.sgn b a
 omega
theorem qhj (hok:qah s) {m:List Int} (h:qbp s m):Inc (qal s m):=by
 refine List.pairwise_map.2 (List.Pairwise.imp_of_mem (fun {a b} ha hb hlt=>?_) h.ris)
 exact (qly hok (h.ran a ha) (h.ran b hb)).2 hlt
theorem qkx (hok:qah s) {m:List Int} (h:∀ i∈m,0<=i∧i<s.ls.length) {i:Int} (hi:0<=i∧i<s.ls.length):lbI s i∈qal s m↔i∈m:=by
 rw [qal,List.mem_map]
 constructor
 ·rintro ⟨j,hj,e⟩
  rw [<- lbI_inj hok (h j hj) hi e]
  exact hj
 ·exact fun h=>⟨i,h,rfl⟩
theorem lab_sc (hok:qah s) (L:List (List Int)) (hL:∀ m∈L,qbp s m):(L.foldl qa4 []).map (qal s)=qcg (qb7 (L.map (qal s))):=by
 obtain ⟨h1,h2⟩:=qht L [] List.Pairwise.nil
 refine qkb qes _ _ (List.pairwise_map.2 (List.Pairwise.imp_of_mem (fun {a b} ha hb hlt=>?_) h1)) (qma qes qll _ (qi1 qes _)) fun y=>?_
 ·have ha':a∈L:=by simpa using (h2 a).1 ha
  have hb':b∈L:=by simpa using (h2 b).1 hb
  exact (qjk hok a b (hL a ha').ran (hL b hb').ran).2 hlt
 ·rw [qi4,List.mem_map,List.mem_map]
  refine exists_congr fun m=>and_congr_left fun _=>?_
  rw [h2]
  simp
theorem lab_meets (hok:qah s) {m a:List Int} (hm:qbp s m) (ha:qbp s a):qel (qal s m) (qal s a)=qe3 m a:=by
 rw [Bool.eq_iff_iff,qj2 (qhj hok ha),qe3,List.any_eq_true]
 constructor
 ·rintro ⟨x,hx,hxa⟩
  obtain ⟨i,hi,rfl⟩:=List.mem_map.1 hx
  exact ⟨i,hi,decide_eq_true ((qkx hok ha.ran (hm.ran i hi)).1 hxa)⟩
 ·rintro ⟨i,hi,h⟩
  exact ⟨lbI s i,List.mem_map.2 ⟨i,hi,rfl⟩,(qkx hok ha.ran (hm.ran i hi)).2 (of_decide_eq_true h)⟩
theorem qr2 {m:List Int} (hm:qbp s m) {x:Int} (hx:0<=x∧x<s.ls.length) (hn:x∉m):qbp s (qbn m x):=⟨qsj x m hm.ris hn,fun i hi=>by
 rcases (qis x i m).1 hi with h | rfl
 ·exact hm.ran i h
 ·exact hx⟩
theorem lab_with (hok:qah s) {m:List Int} (hm:qbp s m) {x:Int} (hx:0<=x∧x<s.ls.length) (hn:x∉m):qcm (qal s m) (lbI s x)=qal s (qbn m x):=by
 refine qkb qc2 _ _ (qpt (qhj hok hm) _ fun h=>hn ((qkx hok hm.ran hx).1 h)) (qhj hok (qr2 hm hx hn)) fun y=>?_
 rw [qjs,qal,qal,List.mem_map,List.mem_map]
 constructor
 ·rintro (⟨i,hi,rfl⟩ | rfl)
  ·exact ⟨i,(qis x i m).2 (.inl hi),rfl⟩
  ·exact ⟨x,(qis x x m).2 (.inr rfl),rfl⟩
 ·rintro ⟨i,hi,rfl⟩
  rcases (qis x i m).1 hi with h | rfl
  ·exact .inl ⟨i,h,rfl⟩
  ·exact .inr rfl
theorem qtn {m a:List Int} (h:¬ qe3 m a=true) {x:Int} (hx:x∈a):x∉m:=fun hm=>h (List.any_eq_true.2 ⟨x,hm,decide_eq_true hx⟩)
theorem stepR_fin {m a:List Int} (hm:qbp s m) (ha:qbp s a):∀ y∈qg9 a m,qbp s y:=fun y hy=>by
 unfold qg9 at hy
 split at hy
 ·rw [List.mem_singleton.1 hy]
  exact hm
 ·rename_i h
  obtain ⟨x,hx,rfl⟩:=List.mem_map.1 hy
  exact qr2 hm (ha.ran x hx) (qtn h hx)
theorem lab_step (hok:qah s) {m a:List Int} (hm:qbp s m) (ha:qbp s a):qe8 (qal s a) (qal s m)=(qg9 a m).map (qal s):=by
 unfold qe8 qg9
 rw [lab_meets hok hm ha]
 split
 ·rfl
 ·rename_i h
  show (a.map (lbI s)).map _=_
  rw [List.map_map,List.map_map]
  exact List.map_congr_left fun x hx=>lab_with hok hm (ha.ran x hx) (qtn h hx)
theorem lab_raw (hok:qah s) {a:List Int} (ha:qbp s a):∀ ls:List (List Int),(∀ m∈ls,qbp s m)->qcp (ls.map (qal s)) (qal s a)=(qcc ls a).map (qal s)
 | [],_=>rfl
 | m :: ls,h=>by
  have ih:=lab_raw hok ha ls fun m hm=>h m (by simp [hm])
  unfold qcp qcc at *
  rw [List.map_cons,List.flatMap_cons,List.flatMap_cons,List.map_append,ih,lab_step hok (h m (by simp)) ha]
theorem qrf {a:List Int} (ha:qbp s a) {ls:List (List Int)} (h:∀ m∈ls,qbp s m):∀ y∈qcc ls a,qbp s y:=fun y hy=>by
 obtain ⟨m,hm,hy⟩:=List.mem_flatMap.1 hy
 exact stepR_fin (h m hm) ha y hy
theorem qmb {a:List Int} (ha:qbp s a) {ls:List (List Int)} (h:∀ m∈ls,qbp s m):∀ y∈qgr ls a,qbp s y:=fun y hy=>by
 have:=((qht (qcc ls a) [] List.Pairwise.nil).2 y).1 hy
 exact qrf ha h y (by simpa using this)
theorem qps (ls:List (List Int)) (a:List Int):StrS (qgr ls a):=(qht (qcc ls a) [] List.Pairwise.nil).1
theorem lab_next (hok:qah s) {a:List Int} (ha:qbp s a) {ls:List (List Int)} (h:∀ m∈ls,qbp s m):qdm (ls.map (qal s)) (qal s a)=(qgr ls a).map (qal s):=by
 rw [qdm,lab_raw hok ha ls h,qgr,lab_sc hok _ (qrf ha h)]
theorem StrS.nodup {l:List (List Int)} (h:StrS l):l.Nodup:=List.Pairwise.imp (fun {a b} h e=>by subst e;have:=qgf.refl a;omega) h
theorem lab_least (hok:qah s) {n:List (List Int)} (hs:StrS n) (h:∀ m∈n,qbp s m):qew (n.map (qal s))=(qfd n).map (qal s):=by
 have e:qcg (qb7 (n.map (qal s)))=n.map (qal s):=by
  refine qkb qes _ _ (qma qes qll _ (qi1 qes _)) (List.pairwise_map.2 (List.Pairwise.imp_of_mem (fun {a b} ha hb hlt=>(qjk hok a b (h a ha).ran (h b hb).ran).2 hlt) hs)) fun y=>qi4 _ _
 rw [qew,e,leastOf,qfd,List.filter_map]
 congr 1
 refine List.filter_congr fun a ha=>?_
 rw [Function.comp_apply,Bool.eq_iff_iff,Bool.not_eq_true',List.any_eq_false,List.all_eq_true]
 constructor
 ·intro hn b hb
  rw [Bool.or_eq_true,decide_eq_true_eq,Bool.not_eq_true']
  by_cases hba:b=a
  ·exact .inl hba
  ·refine .inr (Bool.eq_false_iff.2 fun hp=>hn (qal s b) (List.mem_map.2 ⟨b,hb,rfl⟩) ?_)
   have hsub:∀ x∈qal s b,x∈qal s a:=fun x hx=>by
    obtain ⟨i,hi,rfl⟩:=List.mem_map.1 hx
    exact List.mem_map.2 ⟨i,of_decide_eq_true (List.all_eq_true.1 hp i hi),rfl⟩
   rw [qoy (qhj hok (h a ha))]
   refine ⟨?_,hsub⟩
   have hsl:=Inc.sublist (qhj hok (h b hb)) (qhj hok (h a ha)) hsub
   refine Nat.lt_of_le_of_ne hsl.length_le fun hl=>hba (lab_inj hok (h b hb).ran (h a ha).ran (hsl.eq_of_length hl))
 ·rintro hall y hy hsm
  obtain ⟨b,hb,rfl⟩:=List.mem_map.1 hy
  rw [qoy (qhj hok (h a ha))] at hsm
  have hb2:=hall b hb
  rw [Bool.or_eq_true,decide_eq_true_eq,Bool.not_eq_true'] at hb2
  rcases hb2 with rfl | hb2
  ·exact absurd hsm.1 (by omega)
  ·have:qc9 b a=true:=List.all_eq_true.2 fun i hi=>decide_eq_true ((qkx hok (h a ha).ran ((h b hb).ran i hi)).1 (hsm.2 _ (List.mem_map.2 ⟨i,hi,rfl⟩)))
   rw [this] at hb2
   cases hb2
theorem lab_many (n:List (List Int)):qgi (n.map (qal s))=qey n:=by
 unfold qgi qey
 rw [List.length_map,List.any_map]
 congr 2
 funext m
 simp [qal]
theorem qs8 {n:List (List Int)} (h:∀ m∈n,qbp s m):∀ m∈qfd n,qbp s m:=fun m hm=>h m (List.mem_filter.1 hm).1
theorem qqh (hok:qah s):∀ bs ls:List (List Int),(∀ a∈bs,qbp s a)->(∀ m∈ls,qbp s m)->qc4 (bs.map (qal s)) (ls.map (qal s))=(qd5 bs ls).map (List.map (qal s))
 | [],ls,_,_=>rfl
 | a :: bs,ls,hb,h=>by
  have ha:=hb a (by simp)
  rw [List.map_cons,qc4,qd5,lab_next hok ha h,lab_many]
  split
  ·rfl
  ·rw [lab_least hok (qps ls a) (qmb ha h)]
   exact qqh hok bs _ (fun b hb'=>hb b (by simp [hb'])) (qs8 (qmb ha h))
end
section
set_option maxHeartbeats 4000000
set_option maxRecDepth 100000
/- The reference's compareSets,part,meets and with: walked. -/
open Go.Shelf
abbrev RIs:Rdr (List Int):=RSl qac 1
theorem RIs.good:Good RIs 1:=RSl.good qac.good
theorem qwh (S S':Nat->Prop) (a b:List Int) (va vb:Value) (w:World) (ha:RIs S w a [va]) (hb:RIs S' w b [vb]) :
  Calls Tryz.prog 224 #[va,vb] w fun e w'=>e = .returned (.int .i64 (qcd a b))∧Ext w w':=by
 obtain ⟨A,c,rfl,hc,hc0⟩:=ha.val
 obtain ⟨A',c',rfl,hc',hc0'⟩:=hb.val
 have HA:=Hd ha
 have HB:=Hd hb
 clear ha hb
 go_enter Tryz.func224,Tryz.ntmps224
 go_wp2_with fail
 go_loopw [5] (fun vi wr=>∃ k:Nat,k<=a.length∧k<=b.length∧vi = .int .i64 k∧Ext w wr∧Hid (qcd a b=qa1 qai (a.drop k) (b.drop k))) (fun vi _=>a.length-(intOf vi).toNat)
 case atStart=>exact ⟨0,Nat.zero_le _,Nat.zero_le _,rfl,Ext.refl _,(rfl:qcd a b=qa1 qai a b)⟩
 case round =>
  obtain ⟨k,hka,hkb,rfl,hE,hv⟩:=hrel
  have z1:(0:Int)<=(k:Int):=by omega
  by_cases h1:k<a.length
  ·by_cases h2:k<b.length
   ·obtain ⟨b1,o1,c1,rfl,hb1,_,_,hr1,hcell1⟩:=(RIs.good.bel HA.out hE).get k h1
    obtain rfl:=hr1.1
    have g1:=(by simpa using hcell1.get 0 _:wr.cell? ⟨b1,o1+k,none⟩=some (.int .i64 a[k]))
    obtain ⟨b2,o2,c2,rfl,hb2,_,_,hr2,hcell2⟩:=(RIs.good.bel HB.out hE).get k h2
    obtain rfl:=hr2.1
    have g2:=(by simpa using hcell2.get 0 _:wr.cell? ⟨b2,o2+k,none⟩=some (.int .i64 b[k]))
    have hst:qcd a b=if qai a[k] b[k]=0 then qa1 qai (a.drop (k+1)) (b.drop (k+1)) else qai a[k] b[k]:=by
     rw [hv.out,List.drop_eq_getElem_cons h1,List.drop_eq_getElem_cons h2,qa1]
    have hka1:k+1<=a.length:=h1
    have hkb1:k+1<=b.length:=h2
    have z2:(k:Int)<(a.length:Int):=by omega
    have z3:(k:Int)<(b.length:Int):=by omega
    obtain ⟨x,hx⟩:∃ x,a[k]=x:=⟨_,rfl⟩
    obtain ⟨y,hy⟩:∃ y,b[k]=y:=⟨_,rfl⟩
    rw [hx] at g1 hst
    rw [hy] at g2 hst
    clear hr1 hr2 hcell1 hcell2 hx hy hv
    rcases Int.lt_trichotomy x y with hlt | rfl | hlt
    ·have HV:Hid (qcd a b = -1):=by show _=_;rw [hst];simp [qai,hlt]
     have hne:¬ x=y:=by omega
     clear hst
     go_wp2_with fail
     (refine qax ?_;(repeat (first | go_big_quiet_step ((fail)) | quiet_step ((fail))));refine wpQuiet_nil ?_)
     intro w4 hx4
     have g14:=Ext.keep hx4 g1
     have g24:=Ext.keep hx4 g2
     have hb14:b1<w4.heap.size:=Nat.lt_of_lt_of_le hb1 hx4.size
     have hb24:b2<w4.heap.size:=Nat.lt_of_lt_of_le hb2 hx4.size
     go_wp2_with fail
     (refine qax ?_;(repeat (first | go_big_quiet_step ((fail)) | quiet_step ((fail))));refine wpQuiet_nil ?_)
     intro w5 hx5
     go_wp2_with fail
     go_ret
     exact ⟨by rw [HV.out];rfl,(hE.trans' hx4).trans' hx5⟩
    ·have HV:Hid (qcd a b=qa1 qai (a.drop (k+1)) (b.drop (k+1))):=by show _=_;rw [hst];simp [qai]
     clear hst
     go_wp2_with fail
     (refine qax ?_;(repeat (first | go_big_quiet_step ((fail)) | quiet_step ((fail))));refine wpQuiet_nil ?_)
     intro w4 hx4
     go_wp2_with fail
     go_roundw
     case rel=>exact ⟨k+1,hka1,hkb1,by go_num,hE.trans' hx4,HV.out⟩
     case measure=>simp [intOf];omega
    ·have hnl:¬ x<y:=by omega
     have HV:Hid (qcd a b=1):=by show _=_;rw [hst];simp [qai,hlt,hnl]
     have hne:¬ x=y:=by omega
     clear hst
     go_wp2_with fail
     (refine qax ?_;(repeat (first | go_big_quiet_step ((fail)) | quiet_step ((fail))));refine wpQuiet_nil ?_)
     intro w4 hx4
     have g14:=Ext.keep hx4 g1
     have g24:=Ext.keep hx4 g2
     have hb14:b1<w4.heap.size:=Nat.lt_of_lt_of_le hb1 hx4.size
     have hb24:b2<w4.heap.size:=Nat.lt_of_lt_of_le hb2 hx4.size
     go_wp2_with fail
     (refine qax ?_;(repeat (first | go_big_quiet_step ((fail)) | quiet_step ((fail))));refine wpQuiet_nil ?_)
     intro w5 hx5
     go_wp2_with fail
     go_ret
     exact ⟨by rw [HV.out];rfl,(hE.trans' hx4).trans' hx5⟩
   ·obtain rfl:k=b.length:=by omega
    have HV:Hid (qcd a b=1):=by
     show _=_
     rw [hv.out,List.drop_length,List.drop_eq_getElem_cons h1]
     rfl
    have z2:((b.length:Nat):Int)<(a.length:Int):=by omega
    have z3:¬ ((a.length:Nat):Int)<(b.length:Int):=by omega
    clear hv
    go_wp2_with fail
    go_ret
    exact ⟨by rw [HV.out];rfl,hE⟩
  ·obtain rfl:k=a.length:=by omega
   by_cases h2:a.length<b.length
   ·have HV:Hid (qcd a b = -1):=by
     show _=_
     rw [hv.out,List.drop_length,List.drop_eq_getElem_cons h2]
     rfl
    have z2:((a.length:Nat):Int)<(b.length:Int):=by omega
    clear hv
    go_wp2_with fail
    go_ret
    exact ⟨by rw [HV.out];rfl,hE⟩
   ·have HV:Hid (qcd a b=0):=by
     show _=_
     rw [hv.out,List.drop_length,List.drop_of_length_le (by omega)]
     rfl
    have z2:¬ ((a.length:Nat):Int)<(b.length:Int):=by omega
    have z3:¬ ((b.length:Nat):Int)<(a.length:Int):=by omega
    clear hv
    go_wp2_with fail
    go_ret
    exact ⟨by rw [HV.out];rfl,hE⟩
theorem qsb {a b:List Int} {i:Nat} (h:i<a.length) (hn:a[i]∉b):qc9 a b=false:=by
 rw [qc9,List.all_eq_false]
 exact ⟨a[i],List.getElem_mem h,by simpa using hn⟩
theorem quo {a b:List Int} {i:Nat} (h:i<a.length) (hm:a[i]∈b) (ha:qc9 (a.take i) b=true):qc9 (a.take (i+1)) b=true:=by
 rw [qc9,List.take_succ_eq_append_getElem h,List.all_append,List.all_cons,List.all_nil,Bool.and_true,Bool.and_eq_true]
 exact ⟨ha,decide_eq_true hm⟩
theorem part_c (S S':Nat->Prop) (a b:List Int) (va vb:Value) (w:World) (ha:RIs S w a [va]) (hb:RIs S' w b [vb]) (hra:Ris a) (hrb:Ris b) :
  Calls Tryz.prog 225 #[va,vb] w fun e w'=>e = .returned (.bool (qc9 a b))∧Ext w w':=by
 obtain ⟨A,c,rfl,hc,hc0⟩:=ha.val
 obtain ⟨A',c',rfl,hc',hc0'⟩:=hb.val
 have HA:=Hd ha
 have HB:=Hd hb
 have hra':∀ i j,(hij:i<j)->(hj:j<a.length)->a[i]'(by omega)<a[j]:=fun i j hij hj=>List.pairwise_iff_getElem.1 hra i j (by omega) hj hij
 have hrb':∀ i j,(hij:i<j)->(hj:j<b.length)->b[i]'(by omega)<b[j]:=fun i j hij hj=>List.pairwise_iff_getElem.1 hrb i j (by omega) hj hij
 have HRA:=Hd hra'
 have HRB:=Hd hrb'
 clear ha hb hra' hrb' hra hrb
 go_enter Tryz.func225,Tryz.ntmps225
 go_wp2_with fail
 go_loopw [5,6] (fun vk vi wr=>∃ i k:Nat,i<=a.length∧k<=b.length∧vk = .int .i64 k∧vi = .int .i64 i∧Ext w wr∧Hid (∀ j i',(hj:j<k)->(hj':j<b.length)->(hi:i<=i')->(hi':i'<a.length)->b[j]<a[i'])∧Hid (qc9 (a.take i) b=true)) (fun _ vi _=>a.length-(intOf vi).toNat)
 case atStart=>exact ⟨0,0,Nat.zero_le _,Nat.zero_le _,rfl,rfl,Ext.refl _,fun j i' hj=>absurd hj (by omega),(rfl:qc9 [] b=true)⟩
 case round =>
  obtain ⟨i,k,hi,hk,rfl,rfl,hE,hlow,hpre⟩:=hrel
  by_cases hil:i<a.length
  ·have z1:(0:Int)<=(i:Int):=by omega
   have z2:(i:Int)<(a.length:Int):=by omega
   have hi1:i+1<=a.length:=hil
   obtain ⟨x,hx⟩:∃ x,a[i]=x:=⟨_,rfl⟩
   have HX:=Hd hx
   have hbx:∀ W,Ext w W->∃ b1 o1,A=some ⟨b1,o1,none⟩∧b1<W.heap.size∧W.cell? ⟨b1,o1+i,none⟩=some (.int .i64 x):=fun W hW=>by
    obtain ⟨b1,o1,c1,e,hb1,_,_,hr1,hcell1⟩:=(RIs.good.bel HA.out hW).get i hil
    obtain rfl:=hr1.1
    exact ⟨b1,o1,e,hb1,by rw [<- hx];simpa using hcell1.get 0 _⟩
   obtain ⟨b1,o1,rfl,_,_⟩:=hbx wr hE
   have HBX:Hid (∀ W,Ext w W->b1<W.heap.size∧W.cell? ⟨b1,o1+i,none⟩=some (.int .i64 x)):=fun W hW=>by
    obtain ⟨b1',o1',e,h1,h2⟩:=hbx W hW
    simp only [Option.some.injEq,Addr.mk.injEq,and_true] at e
    obtain ⟨rfl,rfl⟩:=e
    exact ⟨h1,h2⟩
   have hlow0:Hid (∀ j,(hj:j<k)->(hj':j<b.length)->b[j]<x):=fun j hj hj'=>by rw [<- hx];exact hlow.out j i hj hj' (Nat.le_refl _) hil
   clear hbx hx
   go_wp2_with fail
   obtain ⟨w7,rfl⟩:∃ w7,w7=wr:=⟨_,rfl⟩
   go_loopw [5] (fun vk wr=>∃ k:Nat,k<=b.length∧vk = .int .i64 k∧Ext w wr∧Hid (∀ j,(hj:j<k)->(hj':j<b.length)->b[j]<x)) (fun vk _=>b.length-(intOf vk).toNat)
   case atStart=>exact ⟨k,hk,rfl,hE,hlow0.out⟩
   case round =>
    clear hlow0 hlow hk hE
    obtain ⟨k,hk,rfl,hE,hlo⟩:=hrel
    obtain ⟨q1,q2⟩:=HBX.out wr hE
    have y1:(0:Int)<=(k:Int):=by omega
    by_cases hkl:k<b.length
    ·obtain ⟨b2,o2,c2,rfl,hb2,_,_,hr2,hcell2⟩:=(RIs.good.bel HB.out hE).get k hkl
     obtain rfl:=hr2.1
     have g2:=(by simpa using hcell2.get 0 _:wr.cell? ⟨b2,o2+k,none⟩=some (.int .i64 b[k]))
     have y2:(k:Int)<(b.length:Int):=by omega
     have y3:¬ (b.length:Int)<=(k:Int):=by omega
     have hk1:k+1<=b.length:=hkl
     obtain ⟨y,hy⟩:∃ y,b[k]=y:=⟨_,rfl⟩
     rw [hy] at g2
     have HY:=Hd hy
     clear hr2 hcell2 hy
     rcases Int.lt_trichotomy y x with hlt | rfl | hlt
     ·have HLO:Hid (∀ j,(hj:j<k+1)->(hj':j<b.length)->b[j]<x):=fun j hj hj'=>by
       rcases Nat.lt_or_ge j k with h | h
       ·exact hlo.out j h hj'
       ·obtain rfl:j=k:=by omega
        rw [HY.out]
        exact hlt
      clear hlo
      go_wp2_with fail
      (refine qax ?_;(repeat (first | go_big_quiet_step ((fail)) | quiet_step ((fail))));refine wpQuiet_nil ?_)
      intro w4 hx4
      go_wp2_with fail
      go_roundw
      case rel=>exact ⟨k+1,hk1,by go_num,hE.trans' hx4,HLO.out⟩
      case measure=>simp [intOf];omega
     ·have HPRE:Hid (qc9 (a.take (i+1)) b=true):=quo hil (by rw [HX.out,<- HY.out];exact List.getElem_mem _) hpre.out
      have HLO:Hid (∀ j i',(hj:j<k)->(hj':j<b.length)->(hi:i+1<=i')->(hi':i'<a.length)->b[j]<a[i']):=fun j i' hj hj' hi hi'=>by
       have h1:=hlo.out j hj hj'
       have h2:=HRA.out i i' (by omega) hi'
       rw [HX.out] at h2
       omega
      clear hlo hpre
      go_wp2_with fail
      (refine qax ?_;(repeat (first | go_big_quiet_step ((fail)) | quiet_step ((fail))));refine wpQuiet_nil ?_)
      intro w4 hx4
      obtain ⟨q3,q4⟩:=HBX.out w4 (hE.trans' hx4)
      have g3:=Ext.keep hx4 g2
      go_wp2_with fail
      (refine qax ?_;(repeat (first | go_big_quiet_step ((fail)) | quiet_step ((fail))));refine wpQuiet_nil ?_)
      intro w5 hx5
      go_wp2_with fail
      go_roundw
      case rel=>exact ⟨i+1,k,hi1,hk,rfl,by go_num,(hE.trans' hx4).trans' hx5,HLO.out,HPRE.out⟩
      case measure=>simp [intOf];omega
     ·have HNO:Hid (qc9 a b=false):=qsb hil (by
       intro hm
       obtain ⟨j,hj,e⟩:=List.mem_iff_getElem.1 hm
       rw [HX.out] at e
       rcases Nat.lt_trichotomy j k with h | rfl | h
       ·have:=hlo.out j h hj
        omega
       ·rw [HY.out] at e
        omega
       ·have:=HRB.out k j h hj
        rw [HY.out] at this
        omega)
      have hne:(y != x)=true:=by rw [bne_iff_ne];omega
      have hnl:¬ y<x:=by omega
      clear hlo hpre
      go_wp2_with fail
      (refine qax ?_;(repeat (first | go_big_quiet_step ((fail)) | quiet_step ((fail))));refine wpQuiet_nil ?_)
      intro w4 hx4
      obtain ⟨q3,q4⟩:=HBX.out w4 (hE.trans' hx4)
      have g3:=Ext.keep hx4 g2
      go_wp2_with fail
      (refine qax ?_;(repeat (first | go_big_quiet_step ((fail)) | quiet_step ((fail))));refine wpQuiet_nil ?_)
      intro w5 hx5
      go_wp2_with fail
      go_ret
      exact ⟨by rw [HNO.out];rfl,(hE.trans' hx4).trans' hx5⟩
    ·obtain rfl:k=b.length:=by omega
     have HNO:Hid (qc9 a b=false):=qsb hil (by
      intro hm
      obtain ⟨j,hj,e⟩:=List.mem_iff_getElem.1 hm
      rw [HX.out] at e
      have:=hlo.out j hj hj
      omega)
     clear hlo hpre
     go_wp2_with fail
     (refine qax ?_;(repeat (first | go_big_quiet_step ((fail)) | quiet_step ((fail))));refine wpQuiet_nil ?_)
     intro w4 hx4
     go_wp2_with fail
     (refine qax ?_;(repeat (first | go_big_quiet_step ((fail)) | quiet_step ((fail))));refine wpQuiet_nil ?_)
     intro w5 hx5
     go_wp2_with fail
     go_ret
     exact ⟨by rw [HNO.out];rfl,(hE.trans' hx4).trans' hx5⟩
  ·obtain rfl:i=a.length:=by omega
   have HF:Hid (qc9 a b=true):=by have h:=hpre.out;rw [List.take_length] at h;exact h
   go_wp2_with fail
   go_ret
   exact ⟨by rw [HF.out];rfl,hE⟩
theorem meets_yes {a b:List Int} {i:Nat} (h:i<a.length) (hm:a[i]∈b):qe3 a b=true:=List.any_eq_true.2 ⟨a[i],List.getElem_mem h,decide_eq_true hm⟩
theorem qu0 {a b:List Int} {i:Nat} (h:i<a.length) (hm:a[i]∉b) (ha:qe3 (a.take i) b=false):qe3 (a.take (i+1)) b=false:=by
 rw [qe3,List.take_succ_eq_append_getElem h,List.any_append,List.any_cons,List.any_nil,Bool.or_false]
 rw [qe3] at ha
 rw [ha,decide_eq_false hm]
 rfl
theorem meets_c (S S':Nat->Prop) (a b:List Int) (va vb:Value) (w:World) (ha:RIs S w a [va]) (hb:RIs S' w b [vb]) (hrb:Ris b) :
  Calls Tryz.prog 157 #[va,vb] w fun e w'=>e = .returned (.bool (qe3 a b))∧Ext w w':=by
 obtain ⟨A,c,rfl,hc,hc0⟩:=ha.val
 obtain ⟨A',c',rfl,hc',hc0'⟩:=hb.val
 have HA:=Hd ha
 have hp:=fun x W (hx:I64 x) (hW:Ext w W)=>part_c (fun _=>True) S' [x] b _ _ _ (qku (S:=fun _=>True) W x hx trivial) (RIs.good.bel hb (hW.trans' ((Ext.refl W).alloc _))) (List.pairwise_singleton _ _) hrb
 have HP:=Hd hp
 clear ha hb hp hrb
 go_enter Tryz.func157,Tryz.ntmps157
 go_wp2_with fail
 go_loopw [5] (fun vi wr=>∃ k:Nat,k<=a.length∧vi = .int .i64 k∧Ext w wr∧Hid (qe3 (a.take k) b=false)) (fun vi _=>a.length-(intOf vi).toNat)
 case atStart=>exact ⟨0,Nat.zero_le _,rfl,Ext.refl _,(rfl:qe3 [] b=false)⟩
 case round =>
  obtain ⟨k,hk,rfl,hE,hno⟩:=hrel
  by_cases hlt:k<a.length
  ·obtain ⟨b1,o1,c1,rfl,hb1,_,_,hr1,hcell1⟩:=(RIs.good.bel HA.out hE).get k hlt
   have hi64:=hr1.2
   obtain rfl:=hr1.1
   have g1:=(by simpa using hcell1.get 0 _:wr.cell? ⟨b1,o1+k,none⟩=some (.int .i64 a[k]))
   have hY:=meets_yes (b:=b) hlt
   have hN:=fun h=>qu0 (b:=b) hlt h hno.out
   have hk1:k+1<=a.length:=hlt
   obtain ⟨x,hx⟩:∃ x,a[k]=x:=⟨_,rfl⟩
   rw [hx] at g1 hY hN hi64
   have hpx:=HP.out x wr hi64 hE
   clear hr1 hcell1 hx
   by_cases hm:x∈b
   ·have HV:=Hd (hY hm)
    rw [show qc9 [x] b=true from by simp [qc9,hm]] at hpx
    clear hY hN hm
    go_wp2_with fail
    refine hpx.mono ?_
    rintro e w4 ⟨rfl,hx4⟩
    go_wp2_with fail
    go_ret
    exact ⟨by rw [HV.out];rfl,hE.trans' (((Ext.refl wr).alloc _).trans' hx4)⟩
   ·have HV:=Hd (hN hm)
    rw [show qc9 [x] b=false from by simp [qc9,hm]] at hpx
    clear hY hN hm
    go_wp2_with fail
    refine hpx.mono ?_
    rintro e w4 ⟨rfl,hx4⟩
    go_wp2_with fail
    go_roundw
    case rel=>exact ⟨k+1,hk1,by go_num,hE.trans' (((Ext.refl wr).alloc _).trans' hx4),HV.out⟩
    case measure=>simp [intOf];omega
  ·obtain rfl:k=a.length:=by omega
   have HF:Hid (qe3 a b=false):=by have h:=hno.out;rw [List.take_length] at h;exact h
   go_wp2_with fail
   go_ret
   exact ⟨by rw [HF.out];rfl,hE⟩
end
section
open Go.Shelf
def IntRow (base:Nat) (r:List Int) (w:World) (e:Ending) (w':World):Prop:=∃ A c,e = .returned (.slice A r.length c)∧qab qac 1 3 base (fun _=>False) w' r (.slice A r.length c)∧Ext w w'
set_option maxHeartbeats 8000000 in
set_option maxRecDepth 100000 in
theorem with_c (S:Nat->Prop) (a:List Int) (x:Int) (va:Value) (w:World) (ha:RIs S w a [va]) (hx:I64 x) (hl:a.length<=100000) :
  Calls Tryz.prog 158 #[va,.int .i64 x] w (IntRow w.heap.size (qbn a x) w):=by
 obtain ⟨A,c,rfl,hc,hc0⟩:=ha.val
 have HA:=Hd ha
 have hwl:=qtx x a
 have HX:=Hd hx
 clear ha hx
 go_enter Tryz.func158,Tryz.ntmps158
 go_wp2_with fail
 go_loopw [5,6,7] (fun v5 vd vi wr=>∃ (k:Nat) (ys:List Int) (Ao:Option Addr) (co:Nat) (d:Bool),k<=a.length∧vi = .int .i64 k∧vd = .bool d∧v5 = .slice Ao ys.length co∧ys.length<=k+d.toNat∧Ext w wr∧Hid (qab qac 1 3 w.heap.size (fun _=>False) wr ys (.slice Ao ys.length co))∧Hid (qbn a x=ys++if d then a.drop k else qbn (a.drop k) x)) (fun _ _ vi _=>a.length-(intOf vi).toNat)
 case atStart=>exact ⟨0,[],none,0,false,Nat.zero_le _,rfl,rfl,rfl,by simp,Ext.refl _,qab.nil ..,(rfl:qbn a x=[]++if false then a.drop 0 else qbn (a.drop 0) x)⟩
 case round =>
  obtain ⟨k,ys,Ao,co,d,hk,rfl,rfl,rfl,hyl,hE,hO,hv⟩:=hrel
  have z1:(0:Int)<=(k:Int):=by omega
  have hyl1:ys.length<=k+1:=by have:=Bool.toNat_le d;omega
  have hlo:∀ q,(Value.slice Ao ys.length co).ownBlock=some q->w.heap.size<=q:=fun q e=>(hO.out.own_lt e).1
  by_cases hlt:k<a.length
  ·obtain ⟨b1,o1,c1,rfl,hb0,_,_,hr1,hcell1⟩:=HA.out.get k hlt
   have hi64:=hr1.2
   obtain rfl:=hr1.1
   have gw:=(by simpa using hcell1.get 0 _:w.cell? ⟨b1,o1+k,none⟩=some (.int .i64 a[k]))
   have hb1:b1<wr.heap.size:=Nat.lt_of_lt_of_le hb0 hE.size
   have hdr:=List.drop_eq_getElem_cons hlt
   have hk1:k+1<=a.length:=hlt
   have z2:(k:Int)<(a.length:Int):=by omega
   obtain ⟨y,hy⟩:∃ y,a[k]=y:=⟨_,rfl⟩
   rw [hy] at gw hdr hi64
   have g1:=Ext.keep hE gw
   have GW:=Hd gw
   have hvo:=hv.out
   rw [hdr] at hvo
   clear hr1 hcell1 hy hdr hv gw hb0
   obtain ⟨g2,c2,w2,hr2,ho2,hb3,_,_⟩:=qct qac.good (by decide) w.heap.size 3 53 (.int .i64 0) 8 Tryz.underlying53 qgg rfl (by decide) (fun _=>False) wr ys (.slice Ao ys.length co) y [.int .i64 y] hO.out ⟨rfl,hi64⟩ hE.size (by omega)
   have HO2:=Hd ho2
   have HB2:Hid (Ext w w2):=Bt.new hE hb3 fun q _ h=>hlo q h
   cases d
   ·by_cases hgt:x<y
    ·have HV:Hid (qbn a x=(ys++[x]++[y])++if true then a.drop (k+1) else qbn (a.drop (k+1)) x):=by
      show _=_
      rw [hvo]
      simp [qbn,hgt]
     clear hr2 ho2 HO2 HB2 hb3 hvo
     obtain ⟨g2,c2,w2,hr2,ho2,hb3,_,_⟩:=qct qac.good (by decide) w.heap.size 3 53 (.int .i64 0) 8 Tryz.underlying53 qgg rfl (by decide) (fun _=>False) wr ys (.slice Ao ys.length co) x [.int .i64 x] hO.out ⟨rfl,HX.out⟩ hE.size (by omega)
     have hE2:Ext w w2:=Bt.new hE hb3 fun q _ h=>hlo q h
     have hb1':b1<w2.heap.size:=Nat.lt_of_lt_of_le hb1 hb3.size
     have hlo2:∀ q,(Value.slice (some ⟨g2,0,none⟩) (ys.length+1) c2).ownBlock=some q->w.heap.size<=q:=fun q e=>(ho2.own_lt e).1
     have g1':=Ext.keep hE2 GW.out
     have hol:(ys++[x]).length=ys.length+1:=by simp
     rw [<- hol] at ho2
     obtain ⟨g3,c3,w3,hr3,ho3,hb4,_,_⟩:=qct qac.good (by decide) w.heap.size 3 53 (.int .i64 0) 8 Tryz.underlying53 qgg rfl (by decide) (fun _=>False) w2 (ys++[x]) (.slice (some ⟨g2,0,none⟩) (ys++[x]).length c2) y [.int .i64 y] ho2 ⟨rfl,hi64⟩ hE2.size (by rw [hol];omega)
     have HO3:=Hd ho3
     have HB3:Hid (Ext w w3):=Bt.new hE2 hb4 fun q _ h=>by rw [hol] at h;exact hlo2 q h
     rw [hol] at hr3 HO3
     clear ho2 ho3 hb3 hb4 hlo hlo2 hO
     go_wp2_with (at_builtin;first | (refine wpList_append_run rfl _ _ _ rfl _ _ _ rfl rfl hr2 ?_;clear hr2) | (refine wpList_append_run rfl _ _ _ rfl _ _ _ rfl rfl hr3 ?_;clear hr3))
     go_roundw
     case rel=>exact ⟨k+1,ys++[x]++[y],some ⟨g3,0,none⟩,c3,true,hk1,by go_num,rfl,by simp,by simp only [List.length_append,List.length_cons,List.length_nil,Bool.toNat_true,Bool.toNat_false] at hyl ⊢;omega,HB3.out,(by have h:=HO3.out;show qab _ _ _ _ _ _ _ _;simpa using h),HV.out⟩
     case measure=>simp [intOf];omega
    ·have HV:Hid (qbn a x=(ys++[y])++if false then a.drop (k+1) else qbn (a.drop (k+1)) x):=by
      show _=_
      rw [hvo]
      simp [qbn,hgt]
     have hng:¬ x<y:=hgt
     clear ho2 hb3 hvo hO hlo
     go_wp2_with (at_builtin;refine wpList_append_run rfl _ _ _ rfl _ _ _ rfl rfl hr2 ?_;clear hr2)
     go_roundw
     case rel=>exact ⟨k+1,ys++[y],some ⟨g2,0,none⟩,c2,false,hk1,by go_num,rfl,by simp,by simp only [List.length_append,List.length_cons,List.length_nil,Bool.toNat_true,Bool.toNat_false] at hyl ⊢;omega,HB2.out,(by have h:=HO2.out;show qab _ _ _ _ _ _ _ _;simpa using h),HV.out⟩
     case measure=>simp [intOf];omega
   ·have HV:Hid (qbn a x=(ys++[y])++if true then a.drop (k+1) else qbn (a.drop (k+1)) x):=by
     show _=_
     rw [hvo]
     simp
    clear ho2 hb3 hvo hO hlo
    go_wp2_with (at_builtin;refine wpList_append_run rfl _ _ _ rfl _ _ _ rfl rfl hr2 ?_;clear hr2)
    go_roundw
    case rel=>exact ⟨k+1,ys++[y],some ⟨g2,0,none⟩,c2,true,hk1,by go_num,rfl,by simp,by simp only [List.length_append,List.length_cons,List.length_nil,Bool.toNat_true,Bool.toNat_false] at hyl ⊢;omega,HB2.out,(by have h:=HO2.out;show qab _ _ _ _ _ _ _ _;simpa using h),HV.out⟩
    case measure=>simp [intOf];omega
  ·obtain rfl:k=a.length:=by omega
   have hvo:=hv.out
   rw [List.drop_length] at hvo
   cases d
   ·have HV:Hid (qbn a x=ys++[x]):=hvo
    obtain ⟨g2,c2,w2,hr2,ho2,hb3,_,_⟩:=qct qac.good (by decide) w.heap.size 3 53 (.int .i64 0) 8 Tryz.underlying53 qgg rfl (by decide) (fun _=>False) wr ys (.slice Ao ys.length co) x [.int .i64 x] hO.out ⟨rfl,HX.out⟩ hE.size (by omega)
    have HO2:=Hd ho2
    have HB2:Hid (Ext w w2):=Bt.new hE hb3 fun q _ h=>hlo q h
    clear ho2 hb3 hvo hv hO hlo
    go_wp2_with (at_builtin;refine wpList_append_run rfl _ _ _ rfl _ _ _ rfl rfl hr2 ?_;clear hr2)
    go_ret
    rw [HV.out]
    exact ⟨some ⟨g2,0,none⟩,c2,by simp,(by have h:=HO2.out;show qab _ _ _ _ _ _ _ _;simpa using h),HB2.out⟩
   ·have HV:Hid (qbn a x=ys):=by show _=_;rw [hvo];simp
    clear hvo hv
    go_wp2_with fail
    go_ret
    rw [HV.out]
    exact ⟨_,_,rfl,hO.out,hE⟩
end
section
open Go.Shelf
theorem infoIs:(Tryz.prog.info? 53).map (fun i=>(i.zero,i.size,i.bytes))=some (some (.slice none 0 0),1,24):=by kernel_rfl
def shR (l:List (List Int)) (x:List Int) (i:Nat):List (List Int):=(l++[x]).take (i+1)++l.drop i
theorem shR_len {l:List (List Int)} {x:List Int} {i:Nat} (h:i<=l.length):(shR l x i).length=l.length+1:=by
 simp only [shR,List.length_append,List.length_take,List.length_drop,List.length_cons,List.length_nil]
 omega
theorem shR_top (l:List (List Int)) (x:List Int):shR l x l.length=l++[x]:=by
 rw [shR,List.drop_length,List.append_nil,List.take_of_length_le (by simp)]
theorem shR_get {l:List (List Int)} {x:List Int} {i:Nat} (h:i+1<=l.length) (hh:i<(shR l x (i+1)).length):(shR l x (i+1))[i]=l[i]:=by
 simp only [shR]
 rw [List.getElem_append_left (by simp;omega),List.getElem_take,List.getElem_append_left]
theorem shR_step {l:List (List Int)} {x:List Int} {i:Nat} (h:i+1<=l.length):(shR l x (i+1)).set (i+1) l[i]=shR l x i:=by
 have hl:(l++[x]).length=l.length+1:=by simp
 unfold shR
 rw [List.take_succ_eq_append_getElem (i:=i+1) (by omega),List.append_assoc,List.set_append_right _ _ (by simp;omega)]
 congr 1
 rw [List.length_take,show i+1-min (i+1) (l++[x]).length=0 by omega,List.singleton_append,List.set_cons_zero,<- List.drop_eq_getElem_cons (by omega)]
theorem shR_end {l:List (List Int)} {x:List Int} {i:Nat} (h:i<=l.length):(shR l x i).set i x=l.take i++[x]++l.drop i:=by
 have hl:(l++[x]).length=l.length+1:=by simp
 unfold shR
 rw [List.take_succ_eq_append_getElem (i:=i) (by omega),List.append_assoc,List.set_append_right _ _ (by simp;omega),List.append_assoc,List.take_append_of_le_length h]
 congr 1
 rw [List.length_take,show i-min i l.length=0 by omega,List.singleton_append,List.set_cons_zero,List.singleton_append]
theorem insR_old {l:List (List Int)} {x:List Int} (h:atR l x<l.length) (he:qcd l[atR l x] x=0):qa4 l x=l:=by
 rw [qa4,if_pos]
 rw [List.getElem?_eq_getElem h,qgf.eq _ _ he]
theorem insR_new {l:List (List Int)} {x:List Int} (h:∀ h:atR l x<l.length,qcd l[atR l x] x≠0):qa4 l x=l.take (atR l x)++[x]++l.drop (atR l x):=by
 rw [qa4,if_neg]
 intro he
 rcases Nat.lt_or_ge (atR l x) l.length with hlt | hge
 ·rw [List.getElem?_eq_getElem hlt,Option.some.injEq] at he
  exact h hlt (by rw [he];exact qgf.refl x)
 ·rw [List.getElem?_eq_none hge] at he
  cases he
def RInsPost (base:Nat) (T:Nat->Prop) (r:List (List Int)) (v:Value) (w:World) (e:Ending) (w':World):Prop :=
 ∃ A c,e = .returned (.slice A r.length c)∧qab RIs 1 53 base T w' r (.slice A r.length c)∧Bt (fun q=>v.ownBlock=some q) w w'∧∀ q,(Value.slice A r.length c).ownBlock=some q->v.ownBlock=some q∨w.heap.size<=q
set_option maxHeartbeats 8000000 in
set_option maxRecDepth 100000 in
theorem qmx (base:Nat) (T:Nat->Prop) (l:List (List Int)) (x:List Int) (v vx:Value) (w:World) (hown:qab RIs 1 53 base T w l v) (hx:RIs (fun b=>T b∧v.ownBlock≠some b) w x [vx]) (hbase:base<=w.heap.size) (hl:l.length<=100000) :
  Calls Tryz.prog 155 #[v,vx] w (RInsPost base T (qa4 l x) v w):=by
 obtain ⟨A,c,rfl,hc,hc0⟩:=(hown.sl RIs.good (by decide)).val
 obtain ⟨Ax,cx,rfl,hcx,hcx0⟩:=hx.val
 have HO:=Hd hown
 have HX:=Hd hx
 have HSL:=Hd (hown.sl RIs.good (by decide))
 have HC1:=Hd fun y vy W (hW:Ext w W) S' (hy:RIs S' W y [vy])=>qwh _ _ y x vy _ W hy (RIs.good.bel hx hW)
 clear hown hx
 go_enter Tryz.func155,Tryz.ntmps155
 go_wp2_with fail
 go_loopw [5,6] (fun vi vj wr=>∃ i j:Nat,i<=j∧j<=l.length∧vi = .int .i64 i∧vj = .int .i64 j∧Ext w wr∧Hid (atR l x=bsI (bsR l x) (j-i) i j)) (fun vi vj _=>((intOf vj)-(intOf vi)).toNat)
 case atStart=>exact ⟨0,l.length,Nat.zero_le _,Nat.le_refl _,rfl,rfl,Ext.refl _,rfl⟩
 case round =>
  obtain ⟨i,j,hij,hj,rfl,rfl,hE,hbs⟩:=hrel
  by_cases hlt:i<j
  ·have hst0:=qmn (bsR l x) i j hlt
   obtain ⟨h,hh⟩:∃ h,(i+j) / 2=h:=⟨_,rfl⟩
   have y1:((i:Int)+(j:Int)) / 2=(h:Int):=by omega
   have y3:((i:Int)+(j:Int)).tdiv 2=(h:Int):=by rw [Int.tdiv_eq_ediv_of_nonneg (by omega)];exact y1
   have hm:h<l.length:=by omega
   have hm1:i<=h:=by omega
   have hm2:h<j:=by omega
   rw [hh] at hst0
   clear hh
   obtain ⟨b,off,cs,rfl,hb,hS,hl2,hr,hcell⟩:=(RIs.good |> RSl.good).bel HSL.out hE |>.get h hm
   obtain ⟨Ay,cy,rfl,hcy,hcy0⟩:=id hr
   have g0:=(by simpa using hcell.get 0 _:wr.cell? ⟨b,off+h,none⟩=some (.slice Ay (l[h]).length cy))
   have hcm:=HC1.out _ _ wr hE _ hr
   have z1:(0:Int)<=(h:Int):=by omega
   have z2:(h:Int)<(l.length:Int):=by omega
   have hst:=Hd hst0
   have hpa:=qj9 (x:=x) hm
   obtain ⟨q1,hq⟩:∃ q,qcd l[h] x=q:=⟨_,rfl⟩
   rw [hq] at hpa hcm
   obtain ⟨ny,hny⟩:∃ ny,(l[h]).length=ny:=⟨_,rfl⟩
   rw [hny] at g0 hcm
   clear hcell hl2 hS hr hst0 hq hny hcy
   by_cases hc2:q1<0
   ·have HC:=Hd (hpa.trans (decide_eq_true hc2))
    clear hpa
    go_wp2_with fail
    refine hcm.mono ?_
    rintro e w4 ⟨rfl,hx4⟩
    go_wp2_with fail
    go_roundw
    case rel =>
     refine ⟨h+1,j,by omega,hj,by go_num,rfl,hE.trans' hx4,?_⟩
     rw [hbs.out,hst.out,if_pos HC.out]
     exact rfl
    case measure=>simp [intOf];omega
   ·have HC:=Hd (hpa.trans (decide_eq_false hc2))
    clear hpa
    go_wp2_with fail
    refine hcm.mono ?_
    rintro e w4 ⟨rfl,hx4⟩
    go_wp2_with fail
    go_roundw
    case rel =>
     refine ⟨i,h,by omega,by omega,rfl,rfl,hE.trans' hx4,?_⟩
     rw [hbs.out,hst.out,if_neg (by rw [HC.out];decide)]
     exact rfl
    case measure=>simp [intOf];omega
  ·obtain rfl:i=j:=by omega
   have hat:atR l x=i:=by rw [hbs.out,show i-i=0 from by omega,bsI]
   have HOLD:Hid (∀ h:i<l.length,qcd l[i] x=0->qa4 l x=l):=fun h he=>by subst hat;exact insR_old h he
   have HNEW:Hid ((∀ h:i<l.length,qcd l[i] x≠0)->qa4 l x=l.take i++[x]++l.drop i):=fun h=>by subst hat;exact insR_new h
   clear hlt hbs hat hij
   have z0:(0:Int)<=(i:Int):=by omega
   by_cases hil:i<l.length
   case' pos =>
    have z1:(i:Int)<(l.length:Int):=by omega
    obtain ⟨b,off,cs,hA,hb,hS,hl2,hr,hcell⟩:=(RIs.good |> RSl.good).bel HSL.out hE |>.get i hil
    obtain ⟨Ay,cy,rfl,hcy,hcy0⟩:=id hr
    have g0:=(by simpa using hcell.get 0 _:wr.cell? ⟨b,off+i,none⟩=some (.slice Ay (l[i]).length cy))
    have hcm:=HC1.out _ _ wr hE _ hr
    obtain ⟨q1,hq⟩:∃ q,qcd l[i] x=q:=⟨_,rfl⟩
    have HQ:=Hd hq
    rw [hq] at hcm
    obtain ⟨ny,hny⟩:∃ ny,(l[i]).length=ny:=⟨_,rfl⟩
    rw [hny] at g0 hcm
    have HA:=Hd hA
    clear hcell hl2 hS hr hq hny hcy
    rw [hA]
    clear hA
    by_cases hc2:q1=0
    case pos =>
     have HV:Hid (qa4 l x=l):=HOLD.out hil (by rw [HQ.out];exact hc2)
     subst hc2
     clear HOLD HNEW
     go_wp2_with fail
     refine hcm.mono ?_
     rintro e w4 ⟨rfl,hx4⟩
     go_wp2_with fail
     go_ret
     rw [HV.out,<- HA.out]
     exact ⟨_,_,rfl,HO.out.ext RIs.good (hE.trans' hx4),(hE.trans' hx4).bt,fun q h=>.inl h⟩
    case' neg =>
     have HV:Hid (qa4 l x=l.take i++[x]++l.drop i):=HNEW.out fun h he=>hc2 (by rw [<- HQ.out];exact he)
     clear HOLD HNEW
     have hqb:(q1 == 0)=false:=beq_eq_false_iff_ne.2 hc2
     go_wp2_with fail
     refine hcm.mono ?_
     rintro e w4 ⟨rfl,hx4⟩
     have hE4:=hE.trans' hx4
     rw [<- HA.out]
     clear HA g0 hx4 hc2 HQ hcy0
   case' neg =>
    have HV:Hid (qa4 l x=l.take i++[x]++l.drop i):=HNEW.out fun h=>absurd h hil
    have z1:¬ (i:Int)<(l.length:Int):=by omega
    obtain ⟨w4,rfl⟩:∃ w4,w4=wr:=⟨_,rfl⟩
    have hE4:=hE
    clear HOLD HNEW
   all_goals
    obtain ⟨g2,c2,w5,hr2,ho2,hb3,hat3,_⟩:=qct RIs.good (by decide) base 53 116 (.slice none 0 0) 24 Tryz.underlying116 infoIs rfl (by decide) T w4 l (.slice A l.length c) x [.slice Ax x.length cx] (HO.out.ext RIs.good hE4) (RIs.good.bel HX.out hE4) (Nat.le_trans hbase hE4.size) (by omega)
    have HO2:=Hd ho2
    have HB3:Hid (Bt (fun q=>(Value.slice A l.length c).ownBlock=some q∨q=g2) w w5):=(hE4.bt.trans hb3).mono fun q _ h=>.inl h
    have HAT:=Hd hat3
    have hg2:g2<w5.heap.size:=by
     obtain ⟨u,hu,_⟩:=qab.get1 ho2 0 (by simp)
     exact World.block_lt_of_cell? _ _ hu
    have hil':i<=l.length:=hj
    clear ho2 hb3 hat3 hE hj
    go_wp2_with (at_builtin;refine wpList_append_run rfl _ _ _ rfl _ _ _ rfl rfl hr2 ?_;clear hr2)
    go_loopw [8] (fun vi wr=>∃ k:Nat,i<=k∧k<=l.length∧vi = .int .i64 k∧Bt (fun q=>q=g2) w5 wr∧Hid (qab RIs 1 53 base T wr (shR l x k) (.slice (some ⟨g2,0,none⟩) (l.length+1) c2))) (fun vi _=>(intOf vi).toNat)
    case atStart=>exact ⟨l.length,hil',Nat.le_refl _,by go_num,Bt.refl _ _,by rw [shR_top];exact HO2.out⟩
    case round =>
     obtain ⟨k,hik,hkl,rfl,hbt,hRW⟩:=hrel
     have hgl:g2<wr.heap.size:=Nat.lt_of_lt_of_le hg2 hbt.size
     by_cases hki:i<k
     ·obtain ⟨m,rfl⟩:∃ m,k=m+1:=⟨k-1,by omega⟩
      have hml:m<l.length:=by omega
      have hsl:=shR_len (x:=x) hkl
      obtain ⟨u,gc,hu,-⟩:=qab.get1 hRW.out m (by omega)
      rw [shR_get hkl] at hu
      obtain ⟨Au,cu,rfl,-,-⟩:=hu.val
      obtain ⟨nu,hnu⟩:∃ nu,(l[m]).length=nu:=⟨_,rfl⟩
      rw [hnu] at gc hu
      obtain ⟨u3,gc3,-,gf3⟩:=qab.get1 hRW.out (m+1) (by omega)
      have hset:=qab.put1 RIs.good hRW.out (by rw [hsl]) (m+1) (.slice Au nu cu) l[m] (by omega) hu
      rw [shR_step hkl] at hset
      have HSET:=Hd hset
      have HBT:Hid (Bt (fun q=>q=g2) w5 (wr.setCell ⟨g2,m+1,none⟩ (.slice Au nu cu))):=hbt.set (Z:=fun q=>q=g2) (p:=⟨g2,m+1,none⟩) (.inr rfl) _
      have z3:(0:Int)<=(m:Int):=by omega
      have z4:(m:Int)<((l.length+1:Nat):Int):=by omega
      have z5:(0:Int)<=((m+1:Nat):Int):=by omega
      have z6:((m+1:Nat):Int)<((l.length+1:Nat):Int):=by omega
      have z7:(i:Int)<((m+1:Nat):Int):=by omega
      have him:i<=m:=by omega
      have hml':m<=l.length:=by omega
      clear hset hu hsl hRW hnu
      first
       | (exfalso;omega)
       | (go_wp2_with fail
          go_roundw
          case rel=>exact ⟨m,him,hml',by go_num,HBT.out,HSET.out⟩
          case measure=>simp [intOf])
     ·obtain rfl:k=i:=by omega
      have hsl:=shR_len (x:=x) hkl
      obtain ⟨u3,gc3,-,gf3⟩:=qab.get1 hRW.out k (by omega)
      have hxw:RIs (fun b=>T b∧b≠g2) wr x [.slice Ax x.length cx]:=by
       have h1:RIs (fun b=>(T b∧(Value.slice A l.length c).ownBlock≠some b)∧b<w.heap.size) w x [.slice Ax x.length cx]:=RIs.good.mono HX.out fun b hb h=>⟨h,hb⟩
       have h2:Kp (fun b=>(T b∧(Value.slice A l.length c).ownBlock≠some b)∧b<w.heap.size) w wr:=(HB3.out.trans (hbt.mono fun q _ h=>.inr h)).kp fun q hq ⟨⟨_,h1⟩,h2⟩ h=>by
        rcases h with h | rfl
        ·exact h1 h
        ·rcases HAT.out with h | h
         ·exact h1 h
         ·have:=hE4.size
          omega
       refine RIs.good.mono (RIs.good.move h1 h2) fun b hb ⟨⟨h3,h4⟩,h5⟩=>⟨h3,?_⟩
       rintro rfl
       rcases HAT.out with h | h
       ·exact h4 h
       ·have:=hE4.size
        omega
      have hset:=qab.put1 RIs.good hRW.out (by rw [hsl]) k (.slice Ax x.length cx) x (by omega) hxw
      rw [shR_end hkl,<- HV.out] at hset
      have hil2:(qa4 l x).length=l.length+1:=by
       rw [HV.out]
       simp only [List.length_append,List.length_take,List.length_drop,List.length_cons,List.length_nil]
       omega
      rw [<- hil2] at hset
      have HSET:=Hd hset
      have HBT:Hid (Bt (fun q=>(Value.slice A l.length c).ownBlock=some q) w (wr.setCell ⟨g2,k,none⟩ (.slice Ax x.length cx))):=by
       refine ((HB3.out.trans (hbt.mono fun q _ h=>.inr h)).set (Z:=fun q=>(Value.slice A l.length c).ownBlock=some q∨q=g2) (p:=⟨g2,k,none⟩) (.inr (.inr rfl)) _).mono fun q hq h=>?_
       rcases h with h | rfl
       ·exact h
       ·rcases HAT.out with h | h
        ·exact h
        ·have:=hE4.size
         omega
      have HIL:=Hd hil2
      have HAT2:Hid (∀ q,some g2=some q->(Value.slice A l.length c).ownBlock=some q∨w.heap.size<=q):=fun q h=>by
       injection h with h
       subst h
       rcases HAT.out with h | h
       ·exact .inl h
       ·have:=hE4.size
        exact .inr (by omega)
      have z4:(k:Int)<((l.length+1:Nat):Int):=by omega
      have z5:(0:Int)<=(k:Int):=by omega
      clear hset hxw hsl hRW hil2
      go_wp2_with fail
      go_ret
      refine ⟨some ⟨g2,0,none⟩,c2,by rw [HIL.out];rfl,HSET.out,HBT.out,fun q h=>HAT2.out q h⟩
end
section
open Go.Shelf
def qdc (l:List (List Int)) (k:Nat) (a:List Int):Bool:=(l.take k).all fun b=>decide (b=a) || !qc9 b a
theorem qvp (l:List (List Int)) {k:Nat} (h:k<l.length) (a:List Int):qdc l (k+1) a=(qdc l k a && (decide (l[k]=a) || !qc9 l[k] a)):=by
 rw [qdc,qdc,List.take_succ_eq_append_getElem h,List.all_append,List.all_cons,List.all_nil,Bool.and_true]
theorem keepR_no (l:List (List Int)) {k:Nat} (a:List Int) (h:qdc l k a=false):qdc l l.length a=false:=by
 rw [qdc,List.all_eq_false] at h ⊢
 obtain ⟨b,hb,h⟩:=h
 exact ⟨b,by rw [List.take_length];exact List.mem_of_mem_take hb,h⟩
theorem qwr (l:List (List Int)) {i:Nat} (h:i<l.length):(l.take (i+1)).filter (qdc l l.length)=if qdc l l.length l[i]=true then (l.take i).filter (qdc l l.length)++[l[i]] else (l.take i).filter (qdc l l.length):=by
 rw [List.take_succ_eq_append_getElem h,List.filter_append,List.filter_cons]
 split <;> simp
theorem leastR_eq (l:List (List Int)):l.filter (qdc l l.length)=qfd l:=by
 unfold qfd qdc
 rw [List.take_length]
def IsRow (T:Nat->Prop) (base:Nat) (r:List (List Int)) (w:World) (e:Ending) (w':World):Prop:=∃ A c,e = .returned (.slice A r.length c)∧qab RIs 1 53 base T w' r (.slice A r.length c)∧Ext w w'
set_option maxHeartbeats 8000000 in
set_option maxRecDepth 100000 in
theorem rleast_c (S:Nat->Prop) (l:List (List Int)) (v:Value) (w:World) (hx:RSl RIs 1 S w l [v]) (hl:l.length<=100000) (hnd:l.Nodup) (hris:∀ a∈l,Ris a) :
  Calls Tryz.prog 159 #[v] w (IsRow (fun b=>S b∧b<w.heap.size) w.heap.size (qfd l) w):=by
 obtain ⟨A,c,rfl,hc,hc0⟩:=hx.val
 have HX:=Hd hx
 have HND:Hid (∀ i k,(hi:i<l.length)->(hk:k<l.length)->¬ (k:Int)=(i:Int)->l[k]≠l[i]):=fun i k hi hk hne e=>hne (by rw [(List.getElem_inj hnd).1 e])
 have HRI:Hid (∀ i,(hi:i<l.length)->Ris l[i]):=fun i hi=>hris _ (List.getElem_mem hi)
 have HLT:=Hd fun i (hi:i<l.length)=>qwr l hi
 have HLE:=Hd (leastR_eq l)
 clear hx hnd hris
 go_enter Tryz.func159,Tryz.ntmps159
 go_wp2_with fail
 go_loopw [3,4] (fun v3 vi wr=>∃ (i:Nat) (ys:List (List Int)) (Ao:Option Addr) (co:Nat),i<=l.length∧vi = .int .i64 i∧v3 = .slice Ao ys.length co∧ys.length<=i∧Ext w wr∧Hid (ys=(l.take i).filter (qdc l l.length))∧Hid (qab RIs 1 53 w.heap.size (fun b=>S b∧b<w.heap.size) wr ys (.slice Ao ys.length co))) (fun _ vi _=>l.length-(intOf vi).toNat)
 case atStart=>exact ⟨0,[],none,0,Nat.zero_le _,rfl,rfl,by simp,Ext.refl _,(rfl:([]:List (List Int))=[]),qab.nil ..⟩
 case round =>
  obtain ⟨i,ys,Ao,co,hi,rfl,rfl,hyl,hE,hY,hO⟩:=hrel
  by_cases hil:i<l.length
  ·obtain ⟨b,off,cs,rfl,hb,hS,hl2,hr,hcell⟩:=HX.out.get i hil
   obtain ⟨Ai,ci,rfl,hci,hci0⟩:=id hr
   have gw:=(by simpa using hcell.get 0 _:w.cell? ⟨b,off+i,none⟩=some (.slice Ai (l[i]).length ci))
   have hi1:i+1<=l.length:=hil
   have z1:(0:Int)<=(i:Int):=by omega
   have z2:(i:Int)<(l.length:Int):=by omega
   have HST:=Hd (HLT.out i hil)
   have HPA:Hid (∀ k,(hk:k<l.length)->∃ Ak ck,w.cell? ⟨b,off+k,none⟩=some (.slice Ak (l[k]).length ck)∧∀ W,Ext w W->Calls Tryz.prog 225 #[.slice Ak (l[k]).length ck,.slice Ai (l[i]).length ci] W fun e w'=>e = .returned (.bool (qc9 l[k] l[i]))∧Ext W w'):=fun k hk=>by
    obtain ⟨b',off',cs',e,_,_,_,hr',hcell'⟩:=HX.out.get k hk
    simp only [Option.some.injEq,Addr.mk.injEq,and_true] at e
    obtain ⟨rfl,rfl⟩:=e
    obtain ⟨Ak,ck,rfl,_,_⟩:=id hr'
    exact ⟨Ak,ck,by simpa using hcell'.get 0 _,fun W hW=>part_c S S l[k] l[i] _ _ W (RIs.good.bel hr' hW) (RIs.good.bel hr hW) (HRI.out k hk) (HRI.out i hil)⟩
   obtain ⟨x,hxi⟩:∃ x,l[i]=x:=⟨_,rfl⟩
   rw [hxi] at gw hr HST
   simp only [hxi] at HPA
   have HXI:=Hd hxi
   have HR:=Hd hr
   have HGW:=Hd gw
   clear hcell hl2 hS hr hxi gw hci
   go_wp2_with fail
   obtain ⟨w7,rfl⟩:∃ w7,w7=wr:=⟨_,rfl⟩
   go_loopw [5,6] (fun vb vk wr=>∃ (k:Nat) (kb:Bool),k<=l.length∧vk = .int .i64 k∧vb = .bool kb∧Ext w7 wr∧Hid (qdc l k x=kb)) (fun _ vk _=>l.length-(intOf vk).toNat)
   case atStart=>exact ⟨0,true,Nat.zero_le _,rfl,rfl,Ext.refl _,(rfl:qdc l 0 x=true)⟩
   case round =>
    obtain ⟨k,kb,hk,rfl,rfl,hE2,hkb⟩:=hrel
    have hE3:=hE.trans' hE2
    have y1:(0:Int)<=(k:Int):=by omega
    have g0:=Ext.keep hE3 HGW.out
    have hbw:b<wr.heap.size:=Nat.lt_of_lt_of_le hb hE3.size
    have hO3:=hO.out.ext RIs.good hE2
    by_cases hkl:k<l.length
    ·have y2:(k:Int)<(l.length:Int):=by omega
     have hk1:k+1<=l.length:=hkl
     cases kb
     ·have HK:Hid (qdc l l.length x=false):=keepR_no l x hkb.out
      have HY2:Hid (ys=(l.take (i+1)).filter (qdc l l.length)):=by show _=_;rw [HST.out,if_neg (by rw [HK.out];decide)];exact hY.out
      have HO3:=Hd hO3
      clear hO3 hO HST HPA hkb
      go_wp2_with fail
      go_roundw
      case rel=>exact ⟨i+1,ys,Ao,co,hi1,by go_num,rfl,by omega,hE3,HY2.out,HO3.out⟩
      case measure=>simp [intOf];omega
     ·have hst:=qvp l hkl x
      rw [hkb.out,Bool.true_and] at hst
      by_cases hki:(k:Int)=(i:Int)
      ·obtain rfl:k=i:=by omega
       have HK:Hid (qdc l (k+1) x=true):=by show _=_;rw [hst,HXI.out];simp
       clear hst hkb hO3
       go_wp2_with fail
       (refine qax ?_;(repeat (first | go_big_quiet_step ((fail)) | quiet_step ((fail))));refine wpQuiet_nil ?_)
       intro w4 hx4
       go_wp2_with fail
       go_roundw
       case rel=>exact ⟨k+1,true,hk1,by go_num,rfl,hE2.trans' hx4,HK.out⟩
       case measure=>simp [intOf];omega
      ·obtain ⟨Ak,ck,gk,hpa⟩:=HPA.out k hkl
       have hne:=HND.out i k hil hkl hki
       have hkib:((k:Int) == (i:Int))=false:=beq_eq_false_iff_ne.2 hki
       rw [HXI.out] at hne
       rw [decide_eq_false hne,Bool.false_or] at hst
       have gk3:=Ext.keep hE3 gk
       have hX2:∀ (y:World),Ext w (qam wr y):=fun y=>hE3.trans' (qbg _ y)
       obtain ⟨nk,hnk⟩:∃ nk,(l[k]).length=nk:=⟨_,rfl⟩
       rw [hnk] at gk3 hpa
       obtain ⟨pb,hpb⟩:∃ pb,qc9 l[k] x=pb:=⟨_,rfl⟩
       rw [hpb] at hst hpa
       have HK:Hid (qdc l (k+1) x = !pb):=hst
       clear hst hkb hO3 hnk hpb gk hne hki
       go_wp2_with fail
       (refine qax ?_;(repeat (first | go_big_quiet_step ((go_at_call 225;exact qbc (hpa _ (hX2 _)))) | quiet_step ((go_at_call 225;exact qbc (hpa _ (hX2 _))))));refine wpQuiet_nil ?_)
       intro w4 hx4
       go_wp2_with fail
       go_roundw
       case rel=>exact ⟨k+1,!pb,hk1,by go_num,rfl,hE2.trans' hx4,HK.out⟩
       case measure=>simp [intOf];omega
    ·obtain rfl:k=l.length:=by omega
     cases kb
     ·have HY2:Hid (ys=(l.take (i+1)).filter (qdc l l.length)):=by show _=_;rw [HST.out,if_neg (by rw [hkb.out];decide)];exact hY.out
      have HO3:=Hd hO3
      clear hO3 hO HST HPA hkb
      go_wp2_with fail
      go_roundw
      case rel=>exact ⟨i+1,ys,Ao,co,hi1,by go_num,rfl,by omega,hE3,HY2.out,HO3.out⟩
      case measure=>simp [intOf];omega
     ·have HY2:Hid (ys++[x]=(l.take (i+1)).filter (qdc l l.length)):=by show _=_;rw [HST.out,if_pos hkb.out,hY.out]
      have hlo:∀ q,(Value.slice Ao ys.length co).ownBlock=some q->w.heap.size<=q:=fun q e=>(hO3.own_lt e).1
      obtain ⟨g2,c2,w5,hr2,ho2,hb3,_,_⟩:=qct RIs.good (by decide) w.heap.size 53 116 (.slice none 0 0) 24 Tryz.underlying116 infoIs rfl (by decide) (fun b=>S b∧b<w.heap.size) wr ys (.slice Ao ys.length co) x [.slice Ai x.length ci] hO3
       (RIs.good.bel (RIs.good.mono HR.out fun q hq h=>⟨⟨h,hq⟩,fun e=>by have:=hlo q e;omega⟩) hE3) hE3.size (by omega)
      have HO2:=Hd ho2
      have HB2:Hid (Ext w w5):=Bt.new hE3 hb3 fun q _ h=>hlo q h
      clear hO3 hO HST HPA hkb ho2 hb3 hlo
      go_wp2_with (at_builtin;refine wpList_append_run rfl _ _ _ rfl _ _ _ rfl rfl hr2 ?_;clear hr2)
      go_roundw
      case rel=>exact ⟨i+1,ys++[x],some ⟨g2,0,none⟩,c2,hi1,by go_num,by simp,by simp;omega,HB2.out,HY2.out,(by have h:=HO2.out;show qab _ _ _ _ _ _ _ _;simpa using h)⟩
      case measure=>simp [intOf];omega
  ·obtain rfl:i=l.length:=by omega
   have HV:Hid (qfd l=ys):=by show _=_;rw [<- HLE.out,hY.out,List.take_length]
   go_wp2_with fail
   go_ret
   rw [HV.out]
   exact ⟨_,_,rfl,hO.out,hE⟩
end
end Go.Proofs.YtegenalcheooeaaGreat
