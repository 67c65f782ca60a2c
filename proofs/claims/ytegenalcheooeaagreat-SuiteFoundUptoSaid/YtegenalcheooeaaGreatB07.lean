/- Of the proof of a law of the suites: Sys, Sys2. -/
import Derived.Test.YtegenalcheooeaaGreatB02
import Derived.Test.YtegenalcheooeaaGreatB06
import Derived.StillTailTactics
set_option linter.unusedSectionVars false
set_option linter.unusedSimpArgs false
set_option linter.unusedVariables false
namespace Go.Proofs.YtegenalcheooeaaGreat
open Go.RowKit
attribute [local go_sem] cell?_exto
section

def qc0:Nat->List Ed->Int->List Int
 | _,[],_=>[]
 | i,e :: es,n=>if e.f=n then (i:Int) :: qc0 (i+1) es n else qc0 (i+1) es n
def qdc (es:List Ed) (n:Int):List Int:=qc0 0 es n
theorem qqr (n:Int):∀ (es fs:List Ed) (i:Nat),qc0 i (es++fs) n=qc0 i es n++qc0 (i+es.length) fs n
 | [],fs,i=>by simp [qc0]
 | e :: es,fs,i=>by
  rw [List.cons_append,qc0,qc0,qqr n es fs (i+1)]
  have:i+1+es.length=i+(e :: es).length:=by simp only [List.length_cons];omega
  rw [this]
  split <;> simp
theorem qvf (es:List Ed) (k:Nat) (h:k<es.length) (n:Int):qdc (es.take (k+1)) n=if es[k].f=n then qdc (es.take k) n++[(k:Int)] else qdc (es.take k) n:=by
 rw [List.take_succ_eq_append_getElem h,qdc,qqr]
 have:0+(es.take k).length=k:=by simp;omega
 rw [this,qc0,qc0]
 split <;> simp [qdc]
theorem qqk (n:Int):∀ (es:List Ed) (i:Nat),(qc0 i es n).length<=es.length
 | [],i=>by simp [qc0]
 | e :: es,i=>by
  have:=qqk n es (i+1)
  rw [qc0]
  split <;> simp only [List.length_cons] <;> omega
theorem qrw (n:Int):∀ (es:List Ed) (i:Nat) (x:Int),x∈qc0 i es n->∃ j,∃ h:j<es.length,x=(i+j:Nat)∧es[j].f=n
 | [],i,x,h=>by simp [qc0] at h
 | e :: es,i,x,h=>by
  rw [qc0] at h
  have rec_:x∈qc0 (i+1) es n->∃ j,∃ h:j<(e :: es).length,x=(i+j:Nat)∧(e :: es)[j].f=n:=fun h=>by
   obtain ⟨j,hj,hx,he⟩:=qrw n es (i+1) x h
   exact ⟨j+1,by simpa using hj,by rw [hx];congr 1;omega,by simpa using he⟩
  split at h
  ·rename_i he
   rcases List.mem_cons.1 h with rfl | h
   ·exact ⟨0,by simp,by simp,he⟩
   ·exact rec_ h
  ·exact rec_ h
structure Rows (w:World) (base:Nat) (f:Int->Option Value) (g:Int->List Int):Prop where
 no:∀ n,f n=none->g n=[]
 own:∀ n v,f n=some v->w.ownsRow base 3 1 v (g n).length ((g n).map (Value.int .i64))
 apart:∀ n n' v v',n≠n'->f n=some v->f n'=some v'->v.ownBlock=none∨v.ownBlock≠v'.ownBlock
theorem Rows.kept {w w':World} {base:Nat} {f:Int->Option Value} {g:Int->List Int} (h:Rows w base f g) {row:Option Nat} (hg:w.grownBy w' row) (hr:∀ k,row=some k->k<base):Rows w' base f g:={
 no:=h.no
 own n v hv:=(h.own n v hv).kept hg (by
  rcases hb:v.ownBlock with _ | k
  ·exact .inl rfl
  ·refine .inr fun e=>?_
   have h1:=hr k e.symm
   rcases (h.own n v hv).2 with ⟨rfl,_⟩ | ⟨g',cap,cur,rfl,hge,_⟩
   ·simp [Value.ownBlock] at hb
   ·simp [Value.ownBlock] at hb;omega)
 apart:=h.apart }
theorem qb1 {w:World} {base n size:Nat} {e:TypeId} {v:Value} {xs:List Value} (h:w.ownsRow base e size v n xs) (k:Nat) (hk:v.ownBlock=some k):base<=k∧k<w.heap.size:=by
 rcases h.2 with ⟨rfl,_⟩ | ⟨g,cap,cur,rfl,hb,hh,_⟩
 ·simp [Value.ownBlock] at hk
 ·have:g=k:=by simpa [Value.ownBlock] using hk
  subst this
  exact ⟨hb,(Array.getElem?_eq_some_iff.1 hh).1⟩
theorem Rows.put {w w1:World} {base:Nat} {f:Int->Option Value} {g:Int->List Int} (h:Rows w base f g) (n:Int) (x:Int) {v':Value}
  (hown:w1.ownsRow base 3 1 v' ((g n).length+1) ((g n).map (Value.int .i64)++[.int .i64 x])) (hg:w.grownBy w1 ((f n).getD (.slice none 0 0)).ownBlock)
  (hat:v'.ownBlock=((f n).getD (.slice none 0 0)).ownBlock∨∃ b,v'.ownBlock=some b∧w.heap.size<=b) :
  Rows w1 base (fun b=>if b=n then some v' else f b) (fun b=>if b=n then g n++[x] else g b):={
 no b hb:=by
  show (if b=n then g n++[x] else g b)=[]
  by_cases e:b=n
  ·simp [e] at hb
  ·simp only [e,if_false] at hb ⊢;exact h.no b hb
 own b v hv:=by
  show w1.ownsRow base 3 1 v (if b=n then g n++[x] else g b).length _
  by_cases e:b=n
  ·subst e
   simp only [if_true,Option.some.injEq] at hv
   subst hv
   simpa using hown
  ·simp only [e,if_false] at hv ⊢
   refine (h.own b v hv).kept hg ?_
   cases hn:f n with
   | none =>
    rcases hb0:v.ownBlock with _ | k
    ·exact .inl rfl
    ·exact .inr (by simp [Value.ownBlock])
   | some u=>rw [Option.getD_some];exact h.apart b n v u e hv hn
 apart b b' v u hne hv hu:=by
  have key:∀ c y,c≠n->f c=some y->v'.ownBlock=none∨v'.ownBlock≠y.ownBlock:=by
   intro c y hc hy
   rcases hat with hat | ⟨k,hk,hks⟩
   ·rw [hat]
    cases hn:f n with
    | none=>exact .inl (by simp [Value.ownBlock])
    | some z=>rw [Option.getD_some];exact h.apart n c z y (Ne.symm hc) hn hy
   ·refine .inr ?_
    rw [hk]
    intro e
    have:=(qb1 (h.own c y hy) k e.symm).2
    omega
  by_cases e:b=n
  ·subst e
   simp only [if_true,Option.some.injEq] at hv
   subst hv
   rw [if_neg (Ne.symm hne)] at hu
   exact key b' u (Ne.symm hne) hu
  ·rw [if_neg e] at hv
   by_cases e':b'=n
   ·subst e'
    simp only [if_true,Option.some.injEq] at hu
    subst hu
    rcases key b v e hv with h1 | h1
    ·rcases hb:v.ownBlock with _ | k
     ·exact .inl rfl
     ·exact .inr (by rw [h1];simp)
    ·rcases hb:v.ownBlock with _ | k
     ·exact .inl rfl
     ·exact .inr (by rw [<- hb];exact Ne.symm h1)
   ·rw [if_neg e'] at hu
    exact h.apart b b' v u hne hv hu }
theorem own_read {w:World} {base:Nat} {v:Value} {xs:List Int} (h:w.ownsRow base 3 1 v xs.length (xs.map (Value.int .i64))) (hx:∀ x∈xs,I64 x) (S:Nat->Prop) (hS:∀ k,base<=k->S k):RSl qac 1 S w xs [v]:=by
 rcases h.2 with ⟨rfl,h0⟩ | ⟨g,cap,cur,rfl,hb,hh,hn,hc,hcs,hcur⟩
 ·obtain rfl:xs=[]:=List.eq_nil_of_length_eq_zero h0
  exact ⟨none,0,rfl,Nat.le_refl _,by omega,.inl rfl⟩
 ·refine ⟨_,cap,rfl,hn,by unfold maxLen at hc;omega,.inr ⟨g,0,rfl,(Array.getElem?_eq_some_iff.1 hh).1,hS g hb,qcn.of_get fun i hi=>⟨[.int .i64 xs[i]],rfl,⟨rfl,hx _ (List.getElem_mem hi)⟩,?_⟩⟩⟩
  intro j u hj
  have hj0:j=0:=by
   rcases j with _ | j
   ·rfl
   ·simp at hj
  subst hj0
  simp at hj
  subst hj
  have hcell:=h.cells (g:=g) rfl i (.int .i64 xs[i]) (by simp [hi])
  simpa [Addr.add_lit] using hcell
structure qav (S:Nat->Prop) (W:World) (g:Nat) (s:Sy):Prop where
 mk ::
 ex:∃ (v u:Value) (m:Nat) (f:Int->Option Value),W.heap[g]? = some (.cells #[.int .i64 s.n,v,u,.map (some m)] 184 (0,0))∧qaa S W s.ls [v]∧qb5 S W s.es [u]∧S g∧S m ∧
  IsMap (Value.int .i64) W m f∧(∀ n,f n=none->qdc s.es n=[])∧(∀ n x,f n=some x->RSl qac 1 S W (qdc s.es n) [x])
theorem qav.move {S:Nat->Prop} {W W':World} {g:Nat} {s:Sy} (h:qav S W g s) (hk:Kp S W W'):qav S W' g s:=by
 obtain ⟨v,u,m,f,h1,h2,h3,h4,h5,h6,h7,h8⟩:=h.ex
 exact ⟨v,u,m,f,(hk.block g (Array.getElem?_eq_some_iff.1 h1).1 h4).trans h1,qaa.good.move h2 hk,qb5.good.move h3 hk,h4,h5,h6.move (hk.block m h6.lt h5),h7,fun n x hx=>(RSl.good qac.good).move (h8 n x hx) hk⟩
theorem qav.bel {S:Nat->Prop} {W W':World} {g:Nat} {s:Sy} (h:qav S W g s) (hk:Ext W W'):qav S W' g s:=h.move (Ext.kp hk)
end
section
set_option maxHeartbeats 1000000
set_option maxRecDepth 100000
/- suite.newSystem,walked. -/
theorem Rows.look {w:World} {base:Nat} {f:Int->Option Value} {g:Int->List Int} (h:Rows w base f g) (n:Int):w.ownsRow base 3 1 ((f n).getD (.slice none 0 0)) (g n).length ((g n).map (Value.int .i64)):=by
 cases hn:f n with
 | none=>rw [h.no n hn];exact ⟨by simp,.inl ⟨rfl,rfl⟩⟩
 | some v=>exact h.own n v hn
theorem Rows.congr {w:World} {base:Nat} {f:Int->Option Value} {g g':Int->List Int} (h:Rows w base f g) (e:∀ n,g' n=g n):Rows w base f g':=by
 have:g'=g:=funext e
 rw [this];exact h
theorem qfx {P:Program} {ops:Array Oper} {o:Oper} {a:Act} {w w':World} {K:Act->World->Prop} {Q:Exit->Act->World->Prop} {E:Prop} (hg:o.guard=none) (s x:Operand) (t:TypeId)
  (hop:o.op=Op.call { callee:=Callee.builtin Builtin.append,args:=#[s,x],argTypes:=#[t,t] }) (v xv v':Value) (hs:a.eval s=v) (hx:a.eval x=xv)
  (hrun:(Builtin.append_ #[t,t] o.type #[v,xv]).run P w = .ok v' w') (hK:K (a.put o.dst v') w') :
  if Region.wanted o (yielded ops a.tmps)=true then Oper.wp P o a w K Q else E:=by
 have hw:Region.wanted o (yielded ops a.tmps)=true:=by simp [Region.wanted,hg]
 rw [if_pos hw]
 unfold Oper.wp
 simp [execOp,hop,resolve,invoke,builtin,hs,hx,hrun,Result.andThen]
 exact hK
def SysPost (S:Nat->Prop) (s:Sy) (w:World) (e:Ending) (w':World):Prop :=
 ∃ g,e = .returned (.tuple #[.pointer (some ⟨g,0,none⟩),.int .i64 0])∧Ext w w'∧w.heap.size<=g∧qav (fun k=>S k∨w.heap.size<=k) w' g s
theorem qht (S:Nat->Prop) (s:Sy) (cs:List Value) (w:World) (hx:RSy S w s cs) (h:¬ qag s) :
  Calls Tryz.prog 78 #[.agg cs.toArray] w fun e w'=>e = .returned (.tuple #[.pointer none,.int .i64 8])∧Ext w w':=by
 have hcon:=fun W h=>Check_c S s cs W h
 rw [qgb h] at hcon
 obtain ⟨_,v,u,rfl,hv,hu⟩:=id hx
 have HX:=Hd hx
 clear hx hv hu h
 go_enter Tryz.func78,Tryz.ntmps78
 go_wp2_with fail
 refine (hcon _ (RSy.good.bel HX.out bel)).mono ?_
 rintro e w1 ⟨rfl,h1⟩
 go_wp2_with fail
 go_ret2
 exact ⟨rfl,bel⟩
theorem qlb:(Tryz.prog.info? 3).map (fun i=>(i.zero,i.size,i.bytes))=some (some (.int .i64 0),1,8):=by kernel_rfl
theorem qge (S:Nat->Prop) (s:Sy) (cs:List Value) (w:World) (hx:RSy S w s cs) (h:qag s) :
  Calls Tryz.prog 78 #[.agg cs.toArray] w (SysPost S s w):=by
 have hcon:=fun W h=>Check_c S s cs W h
 rw [qna h] at hcon
 have b4:s.es.length<=100000:=h.2.2.2.1
 obtain ⟨_,v,u,rfl,hv,hu⟩:=id hx
 obtain ⟨A',c',rfl,hc',hc0'⟩:=hu.val
 have HX:=Hd hx
 have HL:=Hd hv
 have HE:=Hd hu
 obtain ⟨i3,hi3,hzz⟩:=Option.map_eq_some_iff.1 qlb
 simp only [Prod.mk.injEq] at hzz
 obtain ⟨hz0,hz1,hz2⟩:=hzz
 have I3:=Hd (And.intro hi3 (And.intro hz0 (And.intro hz1 hz2)))
 clear hx hv hu h hi3 hz0 hz1 hz2
 have hmm:=@run_makeMap Tryz.prog
 go_enter Tryz.func78,Tryz.ntmps78
 go_wp2_with fail
 refine (hcon _ (RSy.good.bel HX.out bel)).mono ?_
 rintro e w1 ⟨rfl,h1⟩
 have hc1:=h1.cells
 have hz:w.heap.size<w1.heap.size:=by have:=h1.size;simp at this;omega
 go_wp2_with fail
 have hsz1:w1.heap.size<((w1.alloc (Obj.map #[] 0)).alloc (Obj.cells #[Value.int IntKind.i64 s.n,v,Value.slice A' s.es.length c',Value.map (some w1.heap.size)] 184)).heap.size:=by simp;omega
 have hst:((w1.alloc (Obj.map #[] 0)).alloc (Obj.cells #[Value.int IntKind.i64 s.n,v,Value.slice A' s.es.length c',Value.map (some w1.heap.size)] 184)).heap[w1.heap.size+1]? = some (Obj.cells #[Value.int IntKind.i64 s.n,v,Value.slice A' s.es.length c',Value.map (some w1.heap.size)] 184):=by
  have:=Array.getElem?_push_size (xs:=(w1.alloc (Obj.map #[] 0)).heap) (x:=Obj.cells #[Value.int IntKind.i64 s.n,v,Value.slice A' s.es.length c',Value.map (some w1.heap.size)] 184)
  rwa [World.size_alloc] at this
 have hmp:IsMap (Value.int .i64) ((w1.alloc (Obj.map #[] 0)).alloc (Obj.cells #[Value.int IntKind.i64 s.n,v,Value.slice A' s.es.length c',Value.map (some w1.heap.size)] 184)) w1.heap.size (fun _=>none) :=
  (IsMap.new (Value.int .i64) w1).move (Below.heap_alloc _ _ _ (by simp))
 have HST:=Hd hst
 have HMP:=Hd hmp
 clear hst hmp
 go_loopw [20] (fun i wr=>∃ k:Nat,k<=s.es.length∧i = .int .i64 k∧Ext w1 wr∧w1.heap.size+2<=wr.heap.size∧Hid (wr.heap[w1.heap.size+1]? = some (Obj.cells #[Value.int IntKind.i64 s.n,v,Value.slice A' s.es.length c',Value.map (some w1.heap.size)] 184)) ∧
  Hid (∃ f,IsMap (Value.int .i64) wr w1.heap.size f∧Rows wr (w1.heap.size+2) f (qdc (s.es.take k)))) (fun i _=>s.es.length-(intOf i).toNat)
 case atStart=>exact ⟨0,Nat.zero_le _,rfl,bel,by simp,HST.out,fun _=>none,HMP.out,⟨fun _ _=>rfl,fun _ _ h=>by simp at h,fun _ _ _ _ _ h=>by simp at h⟩⟩
 case round =>
  clear hsz1 hc1
  obtain ⟨k,hk,rfl,hX,hzr,hg,f,hf,hrows⟩:=hrel
  by_cases hlt:k<s.es.length
  ·obtain ⟨b,off,cs,rfl,hb,hS,hl,hr,hcell⟩:=(qb5.good.bel HE.out (((Ext.refl w).alloc (Obj.cells #[Value.int IntKind.i64 s.n,v,Value.slice A' s.es.length c'] 25)).trans' (h1.trans' hX))).get k hlt
   obtain ⟨i1,i2,i3',rfl⟩:=id hr
   have g0:=hcell.get 0 _
   have g1:=hcell.get 1 _
   have g2:=hcell.get 2 _
   simp only [Nat.add_zero] at g0
   have c3:wr.cell? ⟨w1.heap.size+1,3,none⟩=some (.map (some w1.heap.size)):=cell_of_row wr _ 3 _ _ _ hg.out
   have hz3:w1.heap.size+1<wr.heap.size:=by omega
   obtain ⟨wa,hwa⟩:∃ wa,wa=wr.alloc (Obj.cells #[Value.int .i64 s.es[k].f,Value.int .i64 s.es[k].l,Value.int .i64 s.es[k].t] 88):=⟨_,rfl⟩
   obtain ⟨wb,hwb⟩:∃ wb,wb=wa.alloc (Obj.cells #[Value.int .i64 k] 3):=⟨_,rfl⟩
   have hma:wa.heap[w1.heap.size]? = wr.heap[w1.heap.size]?:=by rw [hwa];exact Below.heap_alloc _ _ _ (by omega)
   have hmb:wb.heap[w1.heap.size]? = wr.heap[w1.heap.size]?:=by rw [hwb,Below.heap_alloc _ _ _ (by rw [hwa];simp;omega)];exact hma
   have hla:=(hf.move (W':=wa.drew) hma).lookup Tryz.underlying182 qg8 (z:=.slice none 0 0) (by kernel_rfl) s.es[k].f
   have hlb:=(hf.move (W':=wb.drew) hmb).lookup Tryz.underlying182 qg8 (z:=.slice none 0 0) (by kernel_rfl) s.es[k].f
   have hrow:=hrows.look s.es[k].f
   have hrw:=(hrow.alloc (Obj.cells #[Value.int .i64 s.es[k].f,Value.int .i64 s.es[k].l,Value.int .i64 s.es[k].t] 88))
   rw [<- hwa] at hrw
   have hrw2:=hrw.alloc (Obj.cells #[Value.int .i64 (k:Int)] 3)
   rw [<- hwb] at hrw2
   obtain ⟨hi3,hz0,hz1,hz2⟩:=I3.out
   have hout:(qdc (s.es.take k) s.es[k].f).length<=100000:=by have:=qqk s.es[k].f (s.es.take k) 0;rw [List.length_take] at this;unfold qdc;omega
   have hzb:wb.heap.size=wr.heap.size+2:=by rw [hwb,hwa];simp
   obtain ⟨v',w2,hr2,hown2,hg2,_,hat2⟩:=run_append_own_at (P:=Tryz.prog) wb.drew (w1.heap.size+2) 53 53 3 i3 (.int .i64 0) 1 8 Tryz.underlying53 hi3 hz0 hz1 hz2 rfl (by decide) _ _ _ hrw2.drew ⟨wr.heap.size+1,0,none⟩ 1 1 [.int .i64 (k:Int)] rfl
    (fun j u hu=>by
     rcases j with _ | j
     ·simp at hu;subst hu
      show wb.cell? _=_
      rw [hwb]
      have:wr.heap.size+1=wa.heap.size:=by rw [hwa];simp
      rw [Addr.add_lit,this]
      simp
     ·simp at hu) (by simp [Value.oneCell']) (by unfold maxLen;omega) (by omega) (by show _<=wb.heap.size;omega)
   have hblk:∀ q,((f s.es[k].f).getD (.slice none 0 0)).ownBlock=some q->w1.heap.size+2<=q∧q<wr.heap.size:=fun q hq=>qb1 hrow q hq
   have hm2:w2.heap[w1.heap.size]? = wr.heap[w1.heap.size]?:=(hg2.block _ (by show _<wb.heap.size;omega) (by intro e;have:=hblk _ e.symm;omega)).trans hmb
   have hmp2:=hf.move hm2
   obtain ⟨w3,hr3,hmp3,hg3⟩:=hmp2.store (P:=Tryz.prog) Tryz.underlying182 qg8 s.es[k].f v'
   have hgb:wb.heap[w1.heap.size+1]? = wr.heap[w1.heap.size+1]?:=by rw [hwb,Below.heap_alloc _ _ _ (by rw [hwa];simp;omega),hwa];exact Below.heap_alloc _ _ _ (by omega)
   have hgw2:w2.heap[w1.heap.size+1]? = wr.heap[w1.heap.size+1]?:=(hg2.block _ (by show _<wb.heap.size;omega) (by intro e;have:=hblk _ e.symm;omega)).trans hgb
   have hsz2:wb.heap.size<=w2.heap.size:=hg2.size
   have hsz3:w2.heap.size<=w3.heap.size:=hg3.size
   have hgw3:w3.heap[w1.heap.size+1]? = wr.heap[w1.heap.size+1]?:=(hg3.block _ (by omega) (by intro e;injection e with e;omega)).trans hgw2
   have hbox:wb.heap[wr.heap.size]? = some (Obj.cells #[Value.int .i64 s.es[k].f,Value.int .i64 s.es[k].l,Value.int .i64 s.es[k].t] 88):=by
    rw [hwb,Below.heap_alloc _ _ _ (by rw [hwa];simp),hwa];exact Array.getElem?_push_size
   have hbox2:w2.heap[wr.heap.size]? = some (Obj.cells #[Value.int .i64 s.es[k].f,Value.int .i64 s.es[k].l,Value.int .i64 s.es[k].t] 88):=(hg2.block _ (by show _<wb.heap.size;omega) (by intro e;have:=hblk _ e.symm;omega)).trans hbox
   have hbox3:w3.heap[wr.heap.size]? = some (Obj.cells #[Value.int .i64 s.es[k].f,Value.int .i64 s.es[k].l,Value.int .i64 s.es[k].t] 88):=(hg3.block _ (by omega) (by intro e;injection e with e;omega)).trans hbox2
   have q2a:w2.cell? ⟨w1.heap.size+1,3,none⟩=some (.map (some w1.heap.size)):=cell_of_row w2 _ 3 _ _ _ (hgw2.trans hg.out)
   have q3a:w3.cell? ⟨w1.heap.size+1,3,none⟩=some (.map (some w1.heap.size)):=cell_of_row w3 _ 3 _ _ _ (hgw3.trans hg.out)
   have q2b:w2.cell? ⟨wr.heap.size,0,none⟩=some (.int .i64 s.es[k].f):=cell_of_row w2 _ 0 _ _ _ hbox2
   have q3b:w3.cell? ⟨wr.heap.size,0,none⟩=some (.int .i64 s.es[k].f):=cell_of_row w3 _ 0 _ _ _ hbox3
   have qba:wb.drew.cell? ⟨w1.heap.size+1,3,none⟩=some (.map (some w1.heap.size)):=cell_of_row wb.drew _ 3 _ _ _ (hgb.trans hg.out)
   have qbb:wb.drew.cell? ⟨wr.heap.size,0,none⟩=some (.int .i64 s.es[k].f):=cell_of_row wb.drew _ 0 _ _ _ hbox
   have eb:Ext wr wb.drew:=by rw [hwb,hwa];exact (((Ext.refl wr).alloc _).alloc _).drew
   have hX3:Ext w1 w3:=by
    refine Bt.new (Z:=fun q=>w1.heap.size<=q) hX ?_ (fun _ _ h=>h)
    exact (eb.bt.trans ((Bt.of_grown hg2).mono (fun q _ e=>by have:=hblk q e.symm;omega))).trans ((Bt.of_grown hg3).mono (fun q _ e=>by injection e with e;omega))
   have hrows3:Rows w3 (w1.heap.size+2) (fun b=>if b=s.es[k].f then some v' else f b) (qdc (s.es.take (k+1))):=by
    have r1:Rows wb.drew (w1.heap.size+2) f (qdc (s.es.take k)):=hrows.kept (row:=none) ⟨eb.os,eb.tape,eb.output,eb.size,fun q hq _=>eb.block q hq⟩ (fun _ h=>by cases h)
    have r2:=(r1.put s.es[k].f (k:Int) hown2 hg2 (hat2.imp id fun h=>⟨_,h,Nat.le_refl _⟩)).kept hg3 (fun q hq=>by injection hq with hq;omega)
    refine r2.congr fun n=>?_
    rw [qvf s.es k hlt n]
    by_cases e:n=s.es[k].f
    ·subst e;simp
    ·rw [if_neg (Ne.symm e),if_neg e]
   have HX3:=Hd hX3
   have HR3:=Hd hrows3
   have HM3:=Hd hmp3
   have HG3:=Hd (hgw3.trans hg.out)
   have hsz4:w1.heap.size+2<=w3.heap.size:=by omega
   have b4':(k:Int)<100000:=by omega
   subst hwb
   subst hwa
   clear hma hmb hrow hrw hrw2 hown2 hg2 hat2 hzb hblk hm2 hmp2 hgb hgw2 hsz2 hsz3 hgw3 hbox hbox2 hbox3 eb hX3 hrows3 hmp3 hg3 hi3 hz0 hz1 hz2 hf hrows hout hr hl hS hcell
   go_wp2_with fail
   go_region_held3 (fun W=>W.cell? ⟨w1.heap.size+1,3,none⟩=some (.map (some w1.heap.size))∧W.cell? ⟨wr.heap.size,0,none⟩=some (.int .i64 s.es[k].f))
    (first | (refine ⟨?_,?_⟩ <;> go_simp <;> done) | (refine ⟨?_,?_⟩ <;> assumption))
    (refine qfx rfl _ _ _ rfl _ _ _ rfl rfl hr2 ?_)
   all_goals clear hla hlb hr2 hr3 q2a q2b q3a q3b qba qbb
   all_goals go_wp2_with fail
   all_goals go_roundw
   all_goals first
    | exact ⟨k+1,by omega,by go_num,HX3.out,hsz4,HG3.out,_,HM3.out,HR3.out⟩
    | (simp [intOf];omega)
  ·have hE2:Ext w wr:=(((Ext.refl w).alloc (Obj.cells #[Value.int IntKind.i64 s.n,v,Value.slice A' s.es.length c'] 25)).trans' (h1.trans' hX))
   have hle:w.heap.size<=w1.heap.size:=by omega
   have hkk:s.es.take k=s.es:=List.take_of_length_le (by omega)
   rw [hkk] at hrows
   have HF:=Hd hf
   have HR:=Hd hrows
   clear hf hrows hkk
   go_wp2_with fail
   go_ret2
   refine ⟨w1.heap.size+1,rfl,hE2,by omega,⟨v,.slice A' s.es.length c',w1.heap.size,f,hg.out,?_,?_,.inr (by omega),.inr hle,HF.out,HR.out.no,fun n x hx=>?_⟩⟩
   ·exact qaa.good.mono (qaa.good.bel HL.out hE2) (fun _ _ h=>.inl h)
   ·exact qb5.good.mono (qb5.good.bel HE.out hE2) (fun _ _ h=>.inl h)
   ·refine own_read (HR.out.own n x hx) (fun y hy=>?_) _ (fun q hq=>.inr (by omega))
    obtain ⟨j,hj,rfl,_⟩:=qrw n s.es 0 y hy
    exact ⟨by omega,by omega⟩
end
end Go.Proofs.YtegenalcheooeaaGreat
