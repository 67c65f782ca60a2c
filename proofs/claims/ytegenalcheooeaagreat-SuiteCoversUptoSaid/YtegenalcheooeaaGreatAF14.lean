/- Of the proof of a law of the suites: RefEmpty, RefCovers, RefMore, RefChoose. -/
import Derived.Test.YtegenalcheooeaaGreatAF02
import Derived.Test.YtegenalcheooeaaGreatAF07
import Derived.Test.YtegenalcheooeaaGreatAF13
import Derived.Test.YtegenalcheooeaaGreatB10
import Derived.Test.YtegenalcheooeaaGreatB12
import Derived.Test.YtegenalcheooeaaGreatB14
import Derived.Test.YtegenalcheooeaaGreatB15
import Derived.Test.YtegenalcheooeaaGreatB16
set_option linter.unusedSectionVars false
set_option linter.unusedSimpArgs false
set_option linter.unusedVariables false
namespace Go.Proofs.YtegenalcheooeaaGreat
open Go.RowKit
attribute [local go_sem] cell?_exto
set_option maxHeartbeats 16000000
set_option maxRecDepth 100000
section
open Go.Shelf
def qrg (n1 n2:Nat) (w:World) (e:Ending) (w':World):Prop:=∃g v1 v2,e = .returned (.pointer (some ⟨g,0,none⟩))/\w.heap.size<=g/\qaf w' g 172 [v1,v2]/\RBs w.heap.size w' (List.replicate n1 false) v1/\RBs w.heap.size w' (List.replicate n2 false) v2/\(∀q,v1.ownBlock=some q->v2.ownBlock≠some q/\q≠g)/\(∀q,v2.ownBlock=some q->q≠g)/\Ext w w'
theorem emp1 (w:World) (C:Obj) (c f:Nat) (v:c<=1000000) (y:f<=1000000):qrg c f w (.returned (.pointer (some ⟨w.heap.size+1+1+1,0,none⟩))) (((((w.alloc C).alloc (.cells (Array.replicate c (.bool false)) 4)).alloc (.cells (Array.replicate f (.bool false)) 4)).alloc (.cells #[.slice (some ⟨w.heap.size+1,0,none⟩) c c,.slice (some ⟨w.heap.size+1+1,0,none⟩) f f] 172)).drew):=by
 have r:=qf4 (w.alloc C) w.heap.size c (by simp) v;have u:=qf4 ((w.alloc C).alloc (.cells (Array.replicate c (.bool false)) 4)) w.heap.size f (by simp;omega) y;have o:=qaf.new (((w.alloc C).alloc (.cells (Array.replicate c (.bool false)) 4)).alloc (.cells (Array.replicate f (.bool false)) 4)) 172 [.slice (some ⟨w.heap.size+1,0,none⟩) c c,.slice (some ⟨w.heap.size+1+1,0,none⟩) f f];simp only[World.size_alloc]at r u o;exact⟨_,_,_,rfl,by omega,o.ext (Below.drew (Ext.refl _)),r.ext qac.good (Below.drew (((Ext.refl _).alloc _).alloc _)),u.ext qac.good (Below.drew ((Ext.refl _).alloc _)),λq e=>⟨λg=>by simp[Value.ownBlock]at e g;omega,λg=>by simp[Value.ownBlock]at e;omega⟩,λq e g=>by simp[Value.ownBlock]at e;omega,Below.drew (((((Ext.refl _).alloc _).alloc _).alloc _).alloc _)⟩
theorem emp2 (w:World) (C:Obj) (f c:Nat) (v:f<=1000000) (y:c<=1000000):qrg f c w (.returned (.pointer (some ⟨w.heap.size+1+1+1,0,none⟩))) (((((w.alloc C).alloc (.cells (Array.replicate c (.bool false)) 4)).alloc (.cells (Array.replicate f (.bool false)) 4)).alloc (.cells #[.slice (some ⟨w.heap.size+1+1,0,none⟩) f f,.slice (some ⟨w.heap.size+1,0,none⟩) c c] 172)).drew):=by
 have r:=qf4 (w.alloc C) w.heap.size c (by simp) y;have u:=qf4 ((w.alloc C).alloc (.cells (Array.replicate c (.bool false)) 4)) w.heap.size f (by simp;omega) v;have o:=qaf.new (((w.alloc C).alloc (.cells (Array.replicate c (.bool false)) 4)).alloc (.cells (Array.replicate f (.bool false)) 4)) 172 [.slice (some ⟨w.heap.size+1+1,0,none⟩) f f,.slice (some ⟨w.heap.size+1,0,none⟩) c c];simp only[World.size_alloc]at r u o;exact⟨_,_,_,rfl,by omega,o.ext (Below.drew (Ext.refl _)),u.ext qac.good (Below.drew ((Ext.refl _).alloc _)),r.ext qac.good (Below.drew (((Ext.refl _).alloc _).alloc _)),λq e=>⟨λg=>by simp[Value.ownBlock]at e g;omega,λg=>by simp[Value.ownBlock]at e;omega⟩,λq e g=>by simp[Value.ownBlock]at e;omega,Below.drew (((((Ext.refl _).alloc _).alloc _).alloc _).alloc _)⟩
theorem empty_c (S:Nat->Prop) (s:Sy) (cs:List Value) (w:World) (q:RSy S w s cs) (o:s.ls.length<=1000000) (g:s.es.length<=1000000) :
  Calls Tryz.prog 128 #[.agg cs.toArray] w (qrg s.ls.length s.es.length w):=by
 obtain⟨B,D,C,rfl,f,c⟩:=id q;obtain⟨y,A,rfl,_,_⟩:=f.val;obtain⟨v,z,rfl,_,_⟩:=c.val;clear q f c;have r:=λW=>qhy W s.ls.length o
 have u:=λW=>qhy W s.es.length g
 go_enter Tryz.func128,Tryz.ntmps128
 go_wp2_with fail
 go_region_with (fail)
 all_goals go_wp2_with fail
 all_goals go_ret
 all_goals first
  | exact emp1 w _ _ _ o g
  | exact emp2 w _ _ _ o g
end
section
open Go.Shelf
theorem qra {t:Te} (h:qbj t=true):(∀x∈t.tr,qat x.g=true)/\(∀x∈t.mu,qat x.g=true)/\t.tr.length<=40:=by
 simp only[qbj,qbk,qbt,okV,Bool.and_eq_true,decide_eq_true_eq,List.all_eq_true]at h;exact⟨λx c=>(h.1.1.2 x c).2,λx c=>(h.2.2 x c).2,h.1.1.1⟩
theorem qry {s:Sy}:∀(ts:List Te) (c:Cv),qc3 s c->qc3 s (ts.foldl (λc t=>qa9 s t c) c)
 | [],_,h=>h
 | t :: ts,c,h=>qry ts _ (qhw h t)
theorem rCovers_c (S:Nat->Prop) (s:Sy) (cs:List Value) (ts:List Te) (v:Value) (w:World) (hx:RSy S w s cs) (ht:RSl RTe 2 S w ts [v]) :
  Calls Tryz.prog 66 #[.agg cs.toArray,v] w (CvPost (qec s ts) (qal s ts) w):=by
 have y:=λW (X:Ext w W)=>qit S s cs W (RSy.good.bel hx X)
 have I:=λW (X:Ext w W)=>qnc S ts v W ((RSl.good RTe.good).bel ht X)
 have z:=λ(f:qah s) W (X:Ext w W)=>empty_c S s cs W (RSy.good.bel hx X) (by have:=f.2.2.1;omega) (by have:=f.2.2.2.1;omega)
 have HX:=Hd (RSy.good.mono hx (S':=λq=>q<w.heap.size) λq h _=>h);have HT:=Hd ((RSl.good RTe.good).mono ht (S':=λq=>q<w.heap.size) λq h _=>h);obtain⟨_,vl,ve,rfl,aL,aK⟩:=id hx;obtain⟨Al,cl,rfl,_,_⟩:=aL.val;obtain⟨Ae,ce,rfl,_,_⟩:=aK.val;obtain⟨A,c,rfl,hc,a3⟩:=ht.val;clear hx ht aL aK
 by_cases f:qah s
 case neg =>
  rw[qe0 f]at y;have o:qal s ts=8:=by rw[qal,if_neg f]
  have hv:qec s ts=⟨[],[]⟩:=if_neg (by rw[o];decide);rw[hv,o];clear o f I z hv
  go_enter Tryz.func66,Tryz.ntmps66
  go_wp2_with fail
  refine(y _ bel).mono ?_;rintro e w1 ⟨rfl,J⟩;have r:Ext w w1:=bel;clear J
  go_wp2_with fail
  go_ret3;exact⟨.slice none 0 0,.slice none 0 0,rfl,qab.nil ..,qab.nil ..,r⟩
 rw[qhg f]at y
 by_cases o:qal s ts=0
 case neg =>
  have hT:qal s ts=qd3 ts:=by rw[qal,if_pos f]
  have hv:qec s ts=⟨[],[]⟩:=if_neg o;rw[hv];obtain⟨er,ao⟩:=nm (qal s ts);rw[<- hT,ao]at I;rw[ao]at o ⊢;have a2:(er == 0)=false:=beq_eq_false_iff_ne.2 o;clear ao o hT f z hv
  go_enter Tryz.func66,Tryz.ntmps66
  go_wp2_with fail
  refine(y _ bel).mono ?_;rintro e w1 ⟨rfl,J⟩;have r:Ext w w1:=bel;clear J
  go_wp2_with fail
  refine(I _ r).mono ?_;rintro e M ⟨rfl,L⟩;have O:Ext w M:=r.trans' L;clear L
  go_wp2_with fail
  go_ret3;exact⟨.slice none 0 0,.slice none 0 0,rfl,qab.nil ..,qab.nil ..,O⟩
 have hT:qd3 ts=0:=by rw[qal,if_pos f]at o;exact o
 have hv:qec s ts=qd4 s ts:=if_pos o;rw[hv,o];rw[hT]at I;have aT:=Hd (qdh o).2.2;have ay:=Hd f;have ax:=Hd (z f);obtain⟨n,hn⟩:∃n:Nat,s.n=(n:Int):=⟨s.n.toNat,by have:=f.1;omega⟩
 have HN:=Hd hn;rw[hn]at HX ax y ⊢;clear o hT f z hv hn
 go_enter Tryz.func66,Tryz.ntmps66
 go_wp2_with fail
 refine(y _ bel).mono ?_;rintro e w1 ⟨rfl,J⟩;have aE:=qaf.ext (qaf.new w 25 [.int .i64 (n:Int),.slice Al s.ls.length cl,.slice Ae s.es.length ce]) J;have r:Ext w w1:=bel;clear J
 go_wp2_with fail
 refine(I _ r).mono ?_;rintro e M ⟨rfl,L⟩;have O:Ext w M:=r.trans' L;have F:=aE.ext L;have av:=Hd F;have N:=Hd O;have x0:=F.cell 0 _;have x1:=F.cell 1 _;have x2:=F.cell 2 _;have xz:=F.lt;have z:=ax.out M O;clear r L aE y I O F
 go_wp2_with fail
 refine z.mono ?_;rintro e w3 ⟨g,v1,v2,rfl,aG,aF,ac,ad,U,ah,af⟩;have aZ:Hid (Ext w w3):=N.out.trans' af;have aN:=Hd (av.out.ext af);have aw:=Hd aF;have az:Hid (RCv M.heap.size w3 (cv0 s) v1 v2):=⟨ac,ad,λq h h'=>(U q h).1 h'⟩
 have HZ:Hid (∀q,ZCv v1 v2 q->M.heap.size<=q/\q≠g):=λq h=>by
  rcases h with h | h
  .exact ⟨(ac.own_lt h).1,(U q h).2⟩
  exact⟨(ad.own_lt h).1,ah q h⟩
 have aW:Hid (w.heap.size<=M.heap.size/\M.heap.size<=g):=⟨N.out.size,aG⟩
 obtain⟨B0,ai⟩:=nm (w.heap.size);rw[ai]at aN;have au:=Hd ai;obtain⟨A1,c1,rfl,_,_⟩:=(ac.sl qac.good (by decide)).val;obtain⟨A2,c2,rfl,_,_⟩:=(ad.sl qac.good (by decide)).val;simp only[List.length_replicate]at az HZ aw;have aA:=Hd af;clear aG aF ac ad U ah af z x0 x1 x2 xz ai
 go_wp2_with fail
 rw[au.out]
 go_loopw [9] (λvi wr=>∃k:Nat,k<=ts.length/\vi = .int .i64 k/\Hid (Ext M wr/\RCv M.heap.size wr ((ts.take k).foldl (λc t=>qa9 s t c) (cv0 s)) (.slice A1 s.ls.length c1) (.slice A2 s.es.length c2)/\qaf wr g 172 [.slice A1 s.ls.length c1,.slice A2 s.es.length c2])) (λvi _=>ts.length-(intOf vi).toNat)
 case atStart=>exact⟨0,Nat.zero_le _,rfl,aA.out,az.out,aw.out⟩
 obtain⟨k,hk,rfl,Y⟩:=hrel;have o:=Y.out.1;have hX:=N.out.trans' o;have G:=(av.out.ext o)
 rw[au.out]at G;have x0:=G.cell 0 _;have x1:=G.cell 1 _;have x2:=G.cell 2 _;have xz:=G.lt;have aa:=Y.out.2.2;have g0:=aa.cell 0 _;have g1:=aa.cell 1 _;have gz:=aa.lt;clear G aa
 by_cases ab:k<ts.length
 .obtain ⟨b,aM,a1,rfl,hb,aX,_,hr,V⟩:=((RSl.good RTe.good).bel HT.out hX).get k ab;have E:=qra (aT.out _ (List.getElem_mem ab));have ae:(ts.take (k+1)).foldl (λc t=>qa9 s t c) (cv0 s)=qa9 s ts[k] ((ts.take k).foldl (λc t=>qa9 s t c) (cv0 s)):=by rw[List.take_succ_eq_append_getElem ab,List.foldl_append];rfl
  have D:=qry (ts.take k) (cv0 s) (qgn s);obtain⟨C,hC⟩:=nm ((ts.take k).foldl (λc t=>qa9 s t c) (cv0 s));rw[hC]at ae D Y;have an:=qpx ay.out HN.out ts[k] E.1 E.2.1 C D;have u:=λW (X:Ext wr W)=>radd_c (λq=>q<w.heap.size) s ay.out _ n HN.out ts[k] _ g C M.heap.size _ _ W (RSy.good.bel HX.out (hX.trans' X)) (RTe.good.bel hr X) (Y.out.2.2.ext X) (Y.out.2.1.ext X) D (λh=>(HZ.out _ h).2 rfl) (λq hq h=>by have:=(HZ.out q h).1;have:=aW.out;omega) (by have:=E.2.2;omega)
  obtain⟨q1,q2,rfl,aH,aI⟩:=id hr;obtain⟨D1,m1,rfl,_,_⟩:=aH.val;obtain⟨D2,m2,rfl,_,_⟩:=aI.val;obtain⟨d0,d1⟩:=g2 V;obtain⟨T,aC⟩:=nm (ts[k]);rw[aC]at u d0 d1 an ae;rw[an]at u;rw[<- ae]at u;have aq:=Hd u;have aY:k+1<=ts.length:=ab;have aP:=Hd o;have aR:=Hd Y.out.2.2;clear E ae D hC an u V hr aH aI aC Y o hX g0 g1 gz aX
  go_wp2_with fail
  refine qek (λW=>W.cell? ⟨B0,0,none⟩=some (.int .i64 (n:Int))/\W.cell? ⟨B0,1,none⟩=some (.slice Al s.ls.length cl)/\W.cell? ⟨B0,2,none⟩=some (.slice Ae s.es.length ce)/\W.cell? ⟨b,aM+k*2,none⟩=some (.slice D1 T.tr.length m1)/\W.cell? ⟨b,aM+k*2+1,none⟩=some (.slice D2 T.mu.length m2)) (by kernel_rfl) (by rfl) (by kernel_rfl) ⟨x0,x1,x2,d0,d1⟩ (λhHeld=>?_);dsimp only[List.dropLast,List.getLastD,List.getLast?,List.getLast];obtain⟨Wd,ak⟩:=nm (wr.drew);have al:Ext wr Wd:=ak ▸ Below.drew (Ext.refl _);rw[ak]at hHeld ⊢;clear ak x0 x1 x2 d0 d1
  (refine tk 0 ?_;try simp only[qae])
  (refine tk 1 ?_;try simp only[qae])
  (refine tk 2 ?_;try simp only[qae])
  (refine tk 3 ?_;try simp only[qae])
  (refine tk 4 ?_;try simp only[qae])
  (refine tk 5 ?_;try simp only[qae])
  refine wpAnyH_done (by kernel_rfl) ?_ _;show Oper.wp _ _ _ _ _ _;have aD:=aq.out Wd al;have aB:=Hd al;clear hHeld al;go_simp;refine aD.mono ?_;rintro e w5 ⟨rfl,aJ,am⟩;have aS:=Hd aJ;have aO:Hid (Ext M w5):=Bt.new (aP.out.trans' aB.out) am λq _ h=>(HZ.out q h).1
  have aQ:=Hd ((aR.out.ext aB.out).bt am (λh=>(HZ.out _ h).2 rfl));clear aD aJ am
  go_wp2_with fail
  go_roundw
  case rel=>exact⟨k+1,aY,by go_num,aO.out,aS.out,aQ.out⟩
  simp[intOf];omega
 obtain rfl:k=ts.length:=by omega
 have aj:=Y.out.2.1;rw[List.take_length]at aj;have ag:=Hd aj;have aV:=Hd hX;clear aj Y o hX x0 x1 xz
 go_wp2_with fail
 (refine qap ?_;(repeat (first | go_big_quiet_step ((fail)) | quiet_step ((fail))));refine wpQuiet_nil ?_)
 intro w5 ap;have aU:Hid (Ext w w5):=aV.out.trans' ap
 go_wp2_with fail
 go_ret3;refine⟨.slice A1 s.ls.length c1,.slice A2 s.es.length c2,rfl,?_,?_,aU.out⟩
 .exact (ag.out.l.ext qac.good ap).base N.out.size
 exact(ag.out.e.ext qac.good ap).base N.out.size
end
section
open Go.Shelf
theorem rmore_c (S:Nat->Prop) (a b:List Bool) (U V:Value) (w:World) (C:RSl qac 1 S w a [U]) (D:RSl qac 1 S w b [V]) (O:a.length=b.length) :
  Calls Tryz.prog 130 #[U,V] w λe w'=>e = .returned (.int .i64 (qb2 a b:Nat))/\w'=w:=by
 obtain⟨A,c,rfl,hc,ae⟩:=C.val;obtain⟨B,d,rfl,hd,af⟩:=D.val;have X:=Hd C;have Y:=Hd D;have z:=Hd O;clear C D O
 go_enter Tryz.func130,Tryz.ntmps130
 go_wp2
 go_loopw [5,6] (λvn N wr=>∃k:Nat,k<=b.length/\N = .int .i64 k/\vn = .int .i64 ((qb2 (a.take k) (b.take k):Nat):Int)/\wr=w) (λ_ N _=>b.length-(intOf N).toNat)
 case atStart=>exact⟨0,Nat.zero_le _,rfl,by simp[qb2],rfl⟩
 obtain⟨k,hk,rfl,rfl,rfl⟩:=hrel
 by_cases q:k<b.length
 .have y:k<a.length:=by rw[z.out];exact q
  obtain⟨b1,o1,aa,rfl,ac,_,F,J,u⟩:=X.out.get k y;obtain⟨b2,o2,ab,rfl,ad,_,G,L,v⟩:=Y.out.get k q;obtain rfl:=J;obtain rfl:=L;have T:=(by simpa using u.get 0 _:wr.cell? ⟨b1,o1+k,none⟩=some (.bool a[k]))
  have M:=(by simpa using v.get 0 _:wr.cell? ⟨b2,o2+k,none⟩=some (.bool b[k]))
  have f:=qof (a.take k) (b.take k) a[k] b[k] (by rw[List.length_take,List.length_take];omega);rw[<- List.take_succ_eq_append_getElem y,<- List.take_succ_eq_append_getElem q]at f;have I:=qiq (a.take k) (b.take k);rw[List.length_take,Nat.min_eq_left (by omega)]at I;clear u v F G
  cases g:b[k] with
  | false =>
   rw[g]at M f;have o:=Hd f;clear f g
   go_wp2_with fail
   go_roundw
   case rel=>exact⟨k+1,by omega,by go_num,by rw[o.out];rfl,trivial⟩
   simp[intOf];omega
  | true =>
   cases r:a[k] with
   | true =>
    rw[g]at M f;rw[r]at T f;have o:=Hd f;clear f g r
    go_wp2_with fail
    go_roundw
    case rel=>exact⟨k+1,by omega,by go_num,by rw[o.out];rfl,trivial⟩
    simp[intOf];omega
   | false =>
    rw[g]at M f;rw[r]at T f;have o:=Hd f;clear f g r
    go_wp2_with fail
    go_roundw
    case rel=>exact⟨k+1,by omega,by go_num,by rw[o.out];go_num,trivial⟩
    simp[intOf];omega
 have E:k=b.length:=by omega
 have HF:=Hd (show qb2 (a.take k) (b.take k)=qb2 a b from by rw[List.take_of_length_le (by rw[z.out];omega),List.take_of_length_le (by omega)]);have ag:¬ k<a.length:=by rw[z.out];exact q
 clear E
 go_wp2_with fail
 go_ret;rw[HF.out];exact⟨rfl,rfl⟩
end
section
open Go.Shelf
def RCvp:Rdr Cv:=λS w c cs=>∃g v1 v2,cs=[.pointer (some ⟨g,0,none⟩)]/\g<w.heap.size/\S g/\qaf w g 172 [v1,v2]/\RSl qac 1 S w c.l [v1]/\RSl qac 1 S w c.e [v2]
theorem RCvp.good:Good RCvp 1:={
 len:=by rintro S w c cs ⟨g,v1,v2,rfl,_⟩;rfl
 one:=by rintro S w c cs ⟨g,v1,v2,rfl,_⟩ u z;simp at z;subst z;rfl
 move:=by
  rintro S w A c cs ⟨g,v1,v2,rfl,f,o,r,v,y⟩ q;exact⟨g,v1,v2,rfl,Nat.lt_of_lt_of_le f q.size,o,r.keep (q.block g f o),(RSl.good qac.good).move v q,(RSl.good qac.good).move y q⟩
 mono:=by
  rintro S S' w c cs ⟨g,v1,v2,rfl,f,o,r,v,y⟩ hs
  exact⟨g,v1,v2,rfl,f,hs g f o,r,(RSl.good qac.good).mono v hs,(RSl.good qac.good).mono y hs⟩ }
theorem info168:(Tryz.prog.info? 168).map (λi=>(i.zero,i.size,i.bytes))=some (some (.pointer none),1,8):=by kernel_rfl
theorem qie (s:Sy) (ts:List Te):(qa1 s ts).length=ts.length:=List.length_map ..
theorem qub {s:Sy} {ts:List Te} {i:Nat} (h:i<(qa1 s ts).length):qc3 s (qa1 s ts)[i]:=by
 simp only[qa1,List.getElem_map];exact qhw (qgn s) _
theorem qsz {s:Sy} {ts:List Te} {i:Nat} (h:i<ts.length):(qa1 s ts)[i]'(by rw[qie];exact h)=qa9 s ts[i] (cv0 s):=by simp only[qa1,List.getElem_map]
structure ChS (s:Sy) (ts:List Te) (R:List Int) (on:Bool) (a:Cv) (out:List Int) (f:Nat):Prop where
 fit:qc3 s a
 pot:potN a<f
 go:on=true->qe5 (qa1 s ts) f a out=R
 off:on=false->out=R
theorem rChoose_c (S:Nat->Prop) (s:Sy) (cs:List Value) (ts:List Te) (v:Value) (w:World) (hx:RSy S w s cs) (ht:RSl RTe 2 S w ts [v]) :
  Calls Tryz.prog 67 #[.agg cs.toArray,v] w (qnn (qdo s ts) (qal s ts) w):=by
 have ak:=λW (hW:Ext w W)=>qit S s cs W (RSy.good.bel hx hW)
 have aD:=λW (hW:Ext w W)=>qnc S ts v W ((RSl.good RTe.good).bel ht hW)
 have L:=λ(u:qah s) W (hW:Ext w W)=>empty_c S s cs W (RSy.good.bel hx hW) (by have:=u.2.2.1;omega) (by have:=u.2.2.2.1;omega)
 have HX:=Hd (RSy.good.mono hx (S':=λq=>q<w.heap.size) λq h _=>h);have HT:=Hd ((RSl.good RTe.good).mono ht (S':=λq=>q<w.heap.size) λq h _=>h);obtain⟨_,vl,ve,rfl,cy,an⟩:=id hx;obtain⟨Al,cl,rfl,_,_⟩:=cy.val;obtain⟨Ae,ce,rfl,_,_⟩:=an.val;obtain⟨A,c,rfl,hc,dc⟩:=ht.val;clear hx ht cy an
 by_cases u:qah s
 case neg =>
  rw[qe0 u]at ak;have J:qal s ts=8:=by rw[qal,if_neg u]
  have hv:qdo s ts=[]:=if_neg (by rw[J];decide);rw[hv,J];clear J u aD L hv
  go_enter Tryz.func67,Tryz.ntmps67
  go_wp2_with fail
  refine(ak _ bel).mono ?_;rintro e w1 ⟨rfl,aE⟩;have aa:Ext w w1:=bel;clear aE
  go_wp2_with fail
  go_ret2;exact⟨none,0,rfl,qab.nil ..,aa⟩
 rw[qhg u]at ak
 by_cases J:qal s ts=0
 case neg =>
  have hT:qal s ts=qd3 ts:=by rw[qal,if_pos u]
  have hv:qdo s ts=[]:=if_neg J;rw[hv];obtain⟨er,bF⟩:=nm (qal s ts);rw[<- hT,bF]at aD;rw[bF]at J ⊢;have da:(er == 0)=false:=beq_eq_false_iff_ne.2 J;clear bF J hT u L hv
  go_enter Tryz.func67,Tryz.ntmps67
  go_wp2_with fail
  refine(ak _ bel).mono ?_;rintro e w1 ⟨rfl,aE⟩;have aa:Ext w w1:=bel;clear aE
  go_wp2_with fail
  refine(aD _ aa).mono ?_;rintro e w2 ⟨rfl,aF⟩;have a3:Ext w w2:=aa.trans' aF;clear aF
  go_wp2_with fail
  go_ret2;exact⟨none,0,rfl,qab.nil ..,a3⟩
 have hT:qd3 ts=0:=by rw[qal,if_pos u]at J;exact J
 have hv:qdo s ts=qg2 s ts:=if_pos J;rw[hv,J];rw[hT]at aD;have cZ:=(qdh J).2.1;have b6:=Hd (qdh J).2.2;have av:=Hd u;have bn:=Hd (L u);obtain⟨n,hn⟩:∃n:Nat,s.n=(n:Int):=⟨s.n.toNat,by have:=u.1;omega⟩
 have HN:=Hd hn;rw[hn]at HX bn ak ⊢;clear J hT u L hv hn
 go_enter Tryz.func67,Tryz.ntmps67
 go_wp2_with fail
 refine(ak _ bel).mono ?_;rintro e w1 ⟨rfl,aE⟩;have cb:=qaf.ext (qaf.new w 25 [.int .i64 (n:Int),.slice Al s.ls.length cl,.slice Ae s.es.length ce]) aE;have aa:Ext w w1:=bel;clear aE
 go_wp2_with fail
 refine(aD _ aa).mono ?_;rintro e w2 ⟨rfl,aF⟩;have a3:Ext w w2:=aa.trans' aF;have bR:=Hd (cb.ext aF);have b8:=Hd a3;clear aa aF cb ak aD a3
 go_wp2_with fail
 have c4:Hid (w.heap.size<=w2.heap.size):=b8.out.size;obtain⟨B0,bp⟩:=nm (w.heap.size);rw[bp]at bR;have bl:=Hd bp;clear bp;rw[bl.out]
 go_loopw [7,8] (λv7 vi wr=>∃(k:Nat) (Ao:Option Addr) (co:Nat),k<=ts.length/\vi = .int .i64 k/\v7 = .slice Ao k co/\Hid (Ext w2 wr/\qab RCvp 1 168 w2.heap.size (λq=>w2.heap.size<=q) wr ((qa1 s ts).take k) (.slice Ao k co))) (λ_ vi _=>ts.length-(intOf vi).toNat)
 case atStart=>exact⟨0,none,0,Nat.zero_le _,rfl,rfl,Ext.refl _,qab.nil ..⟩
 obtain⟨k,Ao,co,hk,rfl,rfl,hI⟩:=hrel;have J:=hI.out.1;have hX:=b8.out.trans' J;have bD:=bR.out.ext J;obtain⟨x0,x1,x2,xz⟩:=c3 bD;have aX:=Hd bD;clear bD
 by_cases E:k<ts.length
 .have L:=bn.out wr hX;have HE:=Hd J;have I:=Hd hX;clear J hX
  go_wp2_with fail
  refine L.mono ?_;rintro e w3 ⟨g,v1,v2,rfl,al,r,T,U,D,O,ae⟩;have bx:=I.out.trans' ae;obtain⟨b,aW,cQ,rfl,hb,bv,_,hr,F⟩:=((RSl.good RTe.good).bel HT.out bx).get k E;have y:=qra (b6.out _ (List.getElem_mem E));have ay:=qpx av.out HN.out ts[k] y.1 y.2.1 (cv0 s) (qgn s)
  have hZ:∀q,ZCv v1 v2 q->wr.heap.size<=q/\q≠g:=λq h=>by
   rcases h with h | h
   .exact ⟨(T.own_lt h).1,(D q h).2⟩
   exact⟨(U.own_lt h).1,O q h⟩
  have aw:RCv wr.heap.size w3 (cv0 s) v1 v2:=⟨T,U,λq h h'=>(D q h).1 h'⟩
  have o:=λW (hW:Ext w3 W)=>radd_c (λq=>q<w.heap.size) s av.out _ n HN.out ts[k] _ g (cv0 s) wr.heap.size _ _ W (RSy.good.bel HX.out (bx.trans' hW)) (RTe.good.bel hr hW) (r.ext hW) (aw.ext hW) (qgn s) (λh=>(hZ _ h).2 rfl) (λq hq h=>by have:=(hZ q h).1;have:=I.out.size;omega) (by have:=y.2.2;omega)
  rw[ay]at o;rw[<- qsz E]at o;obtain⟨q1,q2,rfl,aS,aT⟩:=id hr;obtain⟨D1,m1,rfl,_,_⟩:=aS.val;obtain⟨D2,m2,rfl,_,_⟩:=aT.val;obtain⟨d0,d1⟩:=g2 F;have bP:(qa1 s ts).take (k+1)=(qa1 s ts).take k++[(qa1 s ts)[k]'(by rw[qie];exact E)]:=List.take_succ_eq_append_getElem (by rw[qie];exact E);have cR:=qub (s:=s) (ts:=ts) (i:=k) (by rw[qie];exact E);obtain⟨C,hC⟩:=nm ((qa1 s ts)[k]'(by rw[qie];exact E));rw[hC]at o bP cR;obtain⟨T1,ag⟩:=nm (ts[k].tr.length);obtain⟨T2,ah⟩:=nm (ts[k].mu.length);rw[ag]at d0;rw[ah]at d1;rw[ag,ah]at o;have aH:=Hd o;have HZ:=Hd hZ;have cC:=Hd r;have cL:=Hd bP;have cN:=Hd ae;have cF:=Hd al;have cU:k+1<=ts.length:=E;have ax:=aX.out.ext ae;clear x0 x1 x2 xz;obtain⟨x0,x1,x2,xz⟩:=c3 ax;have cq:((qa1 s ts).take k).length=k:=by rw[List.length_take,qie];omega
  have bZ:=Hd cq;clear y ay o F hr aS aT hC ag ah bP r T U D O ae bx L hZ aw al bv ax cq
  go_wp2_with fail
  refine qek (λW=>W.cell? ⟨B0,0,none⟩=some (.int .i64 (n:Int))/\W.cell? ⟨B0,1,none⟩=some (.slice Al s.ls.length cl)/\W.cell? ⟨B0,2,none⟩=some (.slice Ae s.es.length ce)/\W.cell? ⟨b,aW+k*2,none⟩=some (.slice D1 T1 m1)/\W.cell? ⟨b,aW+k*2+1,none⟩=some (.slice D2 T2 m2)) (by kernel_rfl) (by rfl) (by kernel_rfl) ⟨x0,x1,x2,d0,d1⟩ (λhHeld=>?_);dsimp only[List.dropLast,List.getLastD,List.getLast?,List.getLast];obtain⟨Wd,ai⟩:=nm (w3.drew);have aj:Ext w3 Wd:=ai ▸ Below.drew (Ext.refl _);rw[ai]at hHeld ⊢;clear ai x0 x1 x2 d0 d1
  (refine tk 0 ?_;try simp only[qae])
  (refine tk 1 ?_;try simp only[qae])
  (refine tk 2 ?_;try simp only[qae])
  (refine tk 3 ?_;try simp only[qae])
  (refine tk 4 ?_;try simp only[qae])
  (refine tk 5 ?_;try simp only[qae])
  refine wpAnyH_done (by kernel_rfl) ?_ _;show Oper.wp _ _ _ _ _ _;have aK:=aH.out Wd aj;have aJ:=Hd aj;clear hHeld aj;go_simp;refine aK.mono ?_;rintro e w5 ⟨rfl,bN,bC⟩;have a1:Ext wr w5:=Bt.new (cN.out.trans' aJ.out) bC λq _ h=>(HZ.out q h).1
  have bq:=(cC.out.ext aJ.out).bt bC (λh=>(HZ.out _ h).2 rfl);have ca:=hI.out.2.ext RCvp.good a1;have a8:=λq hq=>hI.out.2.own_lt (b:=q) hq
  have cz:=HE.out.size;have al:=cF.out
  have cx:RCvp (λq=>w2.heap.size<=q/\(Value.slice Ao k co).ownBlock≠some q) w5 C [.pointer (some ⟨g,0,none⟩)]:=by
   refine⟨g,v1,v2,rfl,bq.lt,⟨by omega,λe=>by have:=(a8 _ e).2;omega⟩,bq,(RSl.good qac.good).mono (bN.l.sl qac.good (by decide)) λq _ h=>?_,(RSl.good qac.good).mono (bN.e.sl qac.good (by decide)) λq _ h=>?_⟩
   all_goals
    have h:=h.resolve_left id;exact⟨by omega,λe=>by have:=(a8 _ e).2;omega⟩
  obtain⟨g8,c8,w8,bO,a7,cc,_,_⟩:=qcw RCvp.good (by decide) w2.heap.size 168 173 (.pointer none) 8 Tryz.underlying173 info168 rfl (by decide) (λq=>w2.heap.size<=q) w5 _ (.slice Ao k co) C [.pointer (some ⟨g,0,none⟩)] ca cx (Nat.le_trans cz a1.size) (by rw[bZ.out];omega);rw[<- cL.out]at a7;rw[bZ.out]at bO a7;have cH:=Hd a7;have cP:Hid (Ext w2 w8):=Bt.new (HE.out.trans' a1) cc λq _ h=>(a8 q h).1
  clear aK bN bC a1 bq ca a8 cx a7 cc hI cz al
  go_wp2_with (at_builtin;refine wpList_append_run rfl _ _ _ rfl _ _ _ rfl rfl bO ?_;clear bO)
  go_roundw
  case rel=>exact⟨k+1,some ⟨g8,0,none⟩,c8,cU,by go_num,rfl,cP.out,cH.out⟩
  simp[intOf];omega
 obtain rfl:k=ts.length:=by omega
 have hO:=hI.out.2;rw[List.take_of_length_le (by rw[qie];exact Nat.le_refl _)]at hO;have bd:=Hd ((RSl.good RCvp.good).mono (hO.sl RCvp.good (by decide)) (S':=λq=>q<wr.heap.size) λq h _=>h);have I:=Hd hX;have L:=bn.out wr hX;obtain⟨N,bu⟩:=nm (ts.length);have bE:=qie s ts;rw[bu]at cZ bd bE ⊢;have br:N<=1000000:=by omega
 have bm:=Hd bE;have b0:=Hd bu;have cW:=λW=>qhy W N br
 obtain⟨we,rfl⟩:∃we,we=wr:=⟨_,rfl⟩
 clear hO hI J hX E hk bE bu
 go_wp2_with fail
 refine L.mono ?_;rintro e w3 ⟨g,u1,u2,rfl,al,r,T,U,D,O,ae⟩;obtain⟨A1,k1,rfl,_,_⟩:=(T.sl qac.good (by decide)).val;obtain⟨A2,k2,rfl,_,_⟩:=(U.sl qac.good (by decide)).val;have aw:RCv we.heap.size w3 (cv0 s) _ _:=⟨T,U,λq h h'=>(D q h).1 h'⟩
 simp only[List.length_replicate]at aw r T U D O ⊢;obtain⟨Z,bA⟩:=nm (ZCv (.slice A1 s.ls.length k1) (.slice A2 s.es.length k2));obtain⟨gh,bJ⟩:=nm (w3.heap.size)
 have HZ:Hid (∀q,Z q->we.heap.size<=q/\q≠g/\q≠gh):=λq h=>by
  rw[<- bA]at h
  rcases h with h | h
  .have:=T.own_lt h;exact⟨this.1,(D q h).2,by omega⟩
  have:=U.own_lt h;exact⟨this.1,O q h,by omega⟩
 have aq:=qf4 w3 we.heap.size N ae.size br;rw[bJ]at aq;have ck:=r.lt;obtain⟨W9,a2⟩:=nm (w3.alloc (.cells (Array.replicate N (.bool false)) 4));have bc:Ext w3 W9:=by rw[<- a2];exact(Ext.refl _).alloc _
 rw[a2]at aq;have b3:Hid (RBs we.heap.size W9 (marksOf N []) (.slice (some ⟨gh,0,none⟩) N N)):=by show RBs _ _ _ _;rw[qkk];exact aq
 have cK:=Hd (aw.ext bc);have cE:=Hd (r.ext bc);have aY:Hid (Ext we W9):=ae.trans' bc;have aZ:=Hd bA;have af:Hid (we.heap.size<=g/\g<gh):=⟨al,by omega⟩
 have bX:=Hd bJ;have b7:=Hd a2;have bT:=Hd (aX.out.ext aY.out);clear x0 x1 x2 xz L T U D O ae bc aw r bA aq al ck bJ a2
 go_wp2_with fail
 rw[b7.out,bX.out];obtain⟨R,hR⟩:=nm (qe5 (qa1 s ts) (s.ls.length+s.es.length+1) (cv0 s) []);have bk:ChS s ts R true (cv0 s) [] (s.ls.length+s.es.length+1):=⟨qgn s,by rw[qne];omega,λ_=>hR,λh=>(by cases h)⟩
 have bW:Hid (mkL (marksOf N R)=qg2 s ts):=by show _=_;rw[<- hR];exact qx5 N b0.out.symm
 have b4:=Hd bk;clear bk hR cW b7 bX
 go_loopg [12] (s.ls.length+s.es.length+2) (λgk v12 wr=>∃(on:Bool) (a:Cv) (V:List Int),v12 = .bool on/\Hid (Bt (λq=>Z q\/q=gh) W9 wr/\RCv we.heap.size wr a (.slice A1 s.ls.length k1) (.slice A2 s.es.length k2)/\RBs we.heap.size wr (marksOf N V) (.slice (some ⟨gh,0,none⟩) N N)/\∃f,ChS s ts R on a V f/\(on=true->f<gk)))
 case atStart=>exact⟨true,cv0 s,[],rfl,Bt.refl _ _,cK.out,b3.out,_,b4.out,λ_=>by omega⟩
 rename World=>wz
 obtain⟨on,a,V,rfl,hI⟩:=hrel
 cases on
 .obtain ⟨ab,ba,aC,f,aM,_⟩:=hI.out;have bj:=aM.off rfl;rw[bj]at aC;have bL:=qs6 (λ_=>True) (marksOf N R) _ wz ((RSl.good qac.good).mono (aC.sl qac.good (by decide)) λ_ _ _=>trivial) (by rw[qcg];exact br);rw[bW.out]at bL
  have bU:Hid (Ext w wz):=Bt.new (I.out.trans' aY.out) ab λq _ h=>by
   have:=I.out.size;have:=af.out
   rcases h with h | h
   .have:=(HZ.out q h).1;omega
   omega
  clear ab ba aC aM bj hI
  go_wp2_with fail
  refine bL.mono ?_;rintro e w5 ⟨A5,c5,rfl,ct,aG⟩;have cG:=Hd (qab.base ct (base':=w.heap.size) bU.out.size);have cO:Hid (Ext w w5):=bU.out.trans' aG;clear bL ct aG
  go_wp2_with fail
  go_ret2;exact⟨A5,c5,rfl,cG.out,cO.out⟩
 obtain⟨ab,ba,aC,f,aM,ci⟩:=hI.out;have bS:=Hd ab;have aI:=Hd ba;have bf:=Hd aC;have G:=Hd aM;have bV:=Hd (ci rfl)
 have cj:=cE.out.bt ab (λh=>by
  have:=af.out
  rcases h with h | h
  .exact (HZ.out g h).2.1 rfl
  omega)
 have bY:=Hd cj
 have b1:=Hd ((RSl.good RCvp.good).move ((RSl.good RCvp.good).bel bd.out aY.out) (ab.kp λq _ hq h=>by
  have:=af.out
  rcases h with h | h
  .have:=(HZ.out q h).1;omega
  omega))
 have cd:=bT.out.bt ab (λh=>by
  have:=af.out;have:=I.out.size;have:=bl.out;have h9:=aX.out.lt
  rcases h with h | h
  .have:=(HZ.out _ h).1;omega
  omega)
 have cD:=Hd cd;clear ab ba aC aM ci hI cj cd
 go_wp2_with fail
 go_loopw [13,14,15] (λvb vg vi wr=>∃(i:Nat) (p:Int×Nat),i<=N/\vi = .int .i64 i/\vb = .int .i64 p.1/\vg = .int .i64 (p.2:Int)/\Hid (Ext wz wr)/\Hid (qfi a ((qa1 s ts).drop i) i p=qhs a (qa1 s ts))/\p.2<=200000) (λ_ _ vi _=>N-(intOf vi).toNat)
 case atStart=>exact⟨0,(-1,0),Nat.zero_le _,rfl,rfl,rfl,Ext.refl _,rfl,by decide⟩
 obtain⟨i,p,hi,rfl,rfl,rfl,z,r,hp⟩:=hrel
 by_cases E:i<N
 .have aP:i<(qa1 s ts).length:=by rw[bm.out];exact E
  obtain⟨be,oe,c6,rfl,db,_,_,cY,cg⟩:=((RSl.good RCvp.good).bel b1.out z.out).get i aP;obtain⟨ge,ve,ue,rfl,dd,_,bg,an,bb⟩:=cY;have c0:=(by simpa using cg.get 0 _:wr.cell? ⟨be,oe+i,none⟩=some (.pointer (some ⟨ge,0,none⟩)))
  obtain⟨e0,e1,ez⟩:=c2 bg;have cn:=bY.out.ext z.out;obtain⟨g0,g1,gz⟩:=c2 cn;have aU:=aI.out.ext z.out;have az:=qub (s:=s) (ts:=ts) aP;have bG:=G.out.fit;obtain⟨c,hc⟩:=nm ((qa1 s ts)[i]);have ad:=r.out;rw[List.drop_eq_getElem_cons aP,qfi,qc8,hc]at ad;rw[hc]at an bb az;have aQ:=λX (hX:Ext wr X)=>rmore_c (λ_=>True) a.l c.l _ ve X ((RSl.good qac.good).mono ((aU.ext hX).l.sl qac.good (by decide)) λ_ _ _=>trivial) ((RSl.good qac.good).mono ((RSl.good qac.good).bel an hX) λ_ _ _=>trivial) (by rw[bG.1,az.1])
  have aR:=λX (hX:Ext wr X)=>rmore_c (λ_=>True) a.e c.e _ ue X ((RSl.good qac.good).mono ((aU.ext hX).e.sl qac.good (by decide)) λ_ _ _=>trivial) ((RSl.good qac.good).mono ((RSl.good qac.good).bel bb hX) λ_ _ _=>trivial) (by rw[bG.2,az.2])
  obtain⟨Be1,c7,rfl,_,_⟩:=an.val;obtain⟨Be2,c9,rfl,_,_⟩:=bb.val;have aN:=qiq a.l c.l;have aO:=qiq a.e c.e;rw[az.1]at aN;rw[az.2]at aO;have cu:=av.out.2.2.1;have cv:=av.out.2.2.2.1;obtain⟨m1,bh⟩:=nm (qb2 a.l c.l);obtain⟨m2,bi⟩:=nm (qb2 a.e c.e);simp only[bh,bi]at aQ aR aN aO ad;have df:IntKind.i64.wrap ((m1:Int)+(m2:Int))=((m1+m2:Nat):Int):=by rw[IntWalk.i64_in _ (by omega)];omega
  have cV:m1+m2<=200000:=by omega
  have cp:i+1<=N:=E;have aA:=λY=>aQ (qam wr Y) (qa7 wr Y)
  have aB:=λY=>aR (qam wr Y) (qa7 wr Y)
  have z1:(0:Int)<=(i:Int):=by omega
  have z2:(i:Int)<(N:Int):=by omega
  clear an bb cg bg cn aU az bG hc bh bi cu cv aN aO aQ aR
  by_cases cm:p.2<m1+m2
  .rw [if_pos cm]at ad;have bo:=Hd ad;clear ad r
   go_wp2_with fail
   (refine qap ?_;(repeat (first | go_big_quiet_step ((first | (go_at_call 130;with_reducible exact qbs (aA _)) | (go_at_call 130;with_reducible exact qbs (aB _)))) | quiet_step ((first | (go_at_call 130;with_reducible exact qbs (aA _)) | (go_at_call 130;with_reducible exact qbs (aB _))))));refine wpQuiet_nil ?_)
   intro w5 aG;have bz:=Hd (z.out.trans' aG);clear aA aB
   go_wp2_with fail
   go_roundw
   case rel=>exact⟨i+1,((i:Int),m1+m2),cp,by go_num,rfl,by go_num,bz.out,bo.out,cV⟩
   simp[intOf];omega
  rw[if_neg cm]at ad;have bo:=Hd ad;clear ad r
  go_wp2_with fail
  (refine qap ?_;(repeat (first | go_big_quiet_step ((first | (go_at_call 130;with_reducible exact qbs (aA _)) | (go_at_call 130;with_reducible exact qbs (aB _)))) | quiet_step ((first | (go_at_call 130;with_reducible exact qbs (aA _)) | (go_at_call 130;with_reducible exact qbs (aB _))))));refine wpQuiet_nil ?_)
  intro w5 aG;have bz:=Hd (z.out.trans' aG);clear aA aB
  go_wp2_with fail
  go_roundw
  case rel=>exact⟨i+1,p,cp,by go_num,rfl,rfl,bz.out,bo.out,hp⟩
  simp[intOf];omega
 obtain rfl:N=i:=by omega
 have a9:p=qhs a (qa1 s ts):=by have h:=r.out;rw[List.drop_eq_nil_of_le (by rw[bm.out];exact Nat.le_refl _)]at h;exact h
 obtain⟨m,hm⟩:∃m,f=m+1:=⟨f-1,by have:=G.out.pot;omega⟩
 have M:=G.out.go rfl;rw[hm,qe5,<- a9]at M;have aL:=qo3 a (qa1 s ts);rw[<- a9]at aL;obtain⟨p1,p2⟩:=p;simp only at M aL ⊢;have HM:=Hd hm
 by_cases ac:p1<0
 .rw [if_pos ac]at M;have de:¬ (0:Int)<=p1:=by omega
  have HR:=Hd M;clear M aL a9 r ac hm
  go_wp2_with fail
  go_roundg f
  case measure=>exact bV.out
  exact⟨false,a,V,rfl,bS.out.ext z.out,aI.out.ext z.out,bf.out.ext qac.good z.out,f,⟨G.out.fit,G.out.pot,λh=>(by cases h),λ_=>HR.out⟩,λh=>(by cases h)⟩
 rw[if_neg ac]at M;obtain⟨j,hj,bM,cS⟩:=aL.resolve_left λh=>ac (by injection h with h _;rw[h];decide)
 have bM:p1=(j:Int):=bM;subst bM;rw[Int.toNat_natCast,show(qa1 s ts).getD j ⟨[],[]⟩=(qa1 s ts)[j] from by simp[hj]]at M;have cT:j<N:=by rw[<- bm.out];exact hj
 have bK:j<ts.length:=by have:=b0.out;omega
 have cX:=qo4 a (qa1 s ts)[j];have ch:=qsz (s:=s) bK;have a5:=covL_or G.out.fit ts[j];rw[<- ch]at a5;have y:=qra (b6.out _ (List.getElem_mem bK));have ay:=qpx av.out HN.out ts[j] y.1 y.2.1 a G.out.fit;rw[a5]at ay;have bH:qc3 s (orCv a (qa1 s ts)[j]):=by rw[<- a5];exact qhw G.out.fit _
 have ax:=bf.out.ext qac.good z.out;have cr:(marksOf N V).length=N:=qcg N V;obtain⟨uu,gc,c1,gf⟩:=qab.get1 ax j (by omega);have ap:=qab.put1 qac.good ax cr.symm j (.bool true) true (by omega) rfl;rw[qjk]at ap;have ao:Bt (λq=>Z q\/q=gh) W9 (wr.setCell ⟨gh,j,none⟩ (.bool true)):=(bS.out.ext z.out).set (p:=⟨gh,j,none⟩) (.inr (.inr rfl)) _;have au:Bt (λq=>q=gh) wr (wr.setCell ⟨gh,j,none⟩ (.bool true)):=Bt.set (Z:=λq=>q=gh) (p:=⟨gh,j,none⟩) (Bt.refl _ _) (.inr rfl) _
 have aV:RCv we.heap.size (wr.setCell ⟨gh,j,none⟩ (.bool true)) a (.slice A1 s.ls.length k1) (.slice A2 s.es.length k2):=(aI.out.ext z.out).keep au λq hq h=>by
  rw[aZ.out]at hq;exact(HZ.out q hq).2.2 h
 have bI:=(bY.out.ext z.out).bt au (λh=>by have:=af.out;omega)
 have bB:=(cD.out.ext z.out).bt au (λh=>by
  have:=af.out;have:=I.out.size;have:=bl.out;have h9:=aX.out.lt
  omega)
 have a6:Kp (λq=>q<w.heap.size) w (wr.setCell ⟨gh,j,none⟩ (.bool true)):=((I.out.trans' aY.out).kp (S:=λq=>q<w.heap.size)).trans (ao.kp λq _ hq h=>by
  have:=I.out.size;have:=af.out
  rcases h with h | h
  .have:=(HZ.out q h).1;omega
  omega)
 obtain⟨W4,bw⟩:=nm (wr.setCell ⟨gh,j,none⟩ (.bool true));rw[bw]at ap ao aV bI bB a6;obtain⟨b,aW,cQ,rfl,hb,bv,_,hr,F⟩:=((RSl.good RTe.good).move HT.out a6).get j bK;have o:=λW (hW:Ext W4 W)=>radd_c (λq=>q<w.heap.size) s av.out _ n HN.out ts[j] _ g a we.heap.size _ _ W (RSy.good.bel (RSy.good.move HX.out a6) hW) (RTe.good.bel hr hW) (bI.ext hW) (aV.ext hW) G.out.fit (λh=>by rw[aZ.out]at h;exact(HZ.out _ h).2.1 rfl) (λq hq h=>by rw[aZ.out]at h;have:=(HZ.out q h).1;have:=I.out.size;omega) (by have:=y.2.2;omega)
 rw[ay]at o;obtain⟨q1,q2,rfl,aS,aT⟩:=id hr;obtain⟨D1,m1,rfl,_,_⟩:=aS.val;obtain⟨D2,m2,rfl,_,_⟩:=aT.val;obtain⟨d0,d1⟩:=g2 F;obtain⟨T1,ag⟩:=nm (ts[j].tr.length);obtain⟨T2,ah⟩:=nm (ts[j].mu.length);rw[ag]at d0;rw[ah]at d1;rw[ag,ah]at o;have am:potN (orCv a (qa1 s ts)[j])<m:=by have:=G.out.pot;have:=HM.out;omega
 obtain⟨C2,b9⟩:=nm (orCv a (qa1 s ts)[j]);rw[b9]at o M bH am;have aH:=Hd o;have b5:Hid (ChS s ts R true C2 (V++[(j:Int)]) m):=⟨bH,am,λ_=>M,λh=>(by cases h)⟩
 have b2:=Hd ap;have bQ:=Hd ao;have cM:=Hd bw;have cA:=Hd bB;have z1:(0:Int)<=(j:Int):=by omega
 have z2:(j:Int)<(N:Int):=by omega
 have z3:(j:Int)<(ts.length:Int):=by omega
 clear M aL a9 r ac hm hj cS cT cX ch a5 y ay bH ax cr c1 ap ao au aV bI bB a6 bw o hr aS aT F bv ag ah b9 am
 go_upto_region 29 with (fail)
 rw[cM.out];obtain⟨x0,x1,x2,xz⟩:=c3 cA.out;refine qek (λW=>W.cell? ⟨B0,0,none⟩=some (.int .i64 (n:Int))/\W.cell? ⟨B0,1,none⟩=some (.slice Al s.ls.length cl)/\W.cell? ⟨B0,2,none⟩=some (.slice Ae s.es.length ce)/\W.cell? ⟨b,aW+j*2,none⟩=some (.slice D1 T1 m1)/\W.cell? ⟨b,aW+j*2+1,none⟩=some (.slice D2 T2 m2)) (by kernel_rfl) (by rfl) (by kernel_rfl) ⟨x0,x1,x2,d0,d1⟩ (λhHeld=>?_);dsimp only[List.dropLast,List.getLastD,List.getLast?,List.getLast];obtain⟨Wd,ai⟩:=nm (W4.drew);have aj:Ext W4 Wd:=ai ▸ Below.drew (Ext.refl _);rw[ai]at hHeld ⊢;clear ai x0 x1 x2 d0 d1
 (refine tk 0 ?_;try simp only[qae])
 (refine tk 1 ?_;try simp only[qae])
 (refine tk 2 ?_;try simp only[qae])
 (refine tk 3 ?_;try simp only[qae])
 (refine tk 4 ?_;try simp only[qae])
 (refine tk 5 ?_;try simp only[qae])
 refine wpAnyH_done (by kernel_rfl) ?_ _;show Oper.wp _ _ _ _ _ _;have aK:=aH.out Wd aj;have aJ:=Hd aj;clear hHeld aj;go_simp;refine aK.mono ?_;rintro e w6 ⟨rfl,cw,a4⟩;rw[aZ.out]at a4;have cJ:=Hd cw;have cB:Hid (Bt (λq=>Z q\/q=gh) W9 w6):=(bQ.out.ext aJ.out).trans (a4.mono λq _ h=>.inl h)
 have cI:Hid (RBs we.heap.size w6 (marksOf N (V++[(j:Int)])) (.slice (some ⟨gh,0,none⟩) N N)):=qe6 (b2.out.ext qac.good aJ.out) a4 λq e h=>by
  have e:some gh=some q:=e;injection e with e
  exact(HZ.out q h).2.2 e.symm
 clear aK cw a4
 go_wp2_with fail
 go_roundg f
 case measure=>exact bV.out
 exact⟨true,C2,V++[(j:Int)],rfl,cB.out,cJ.out,cI.out,m,b5.out,λ_=>by have h:f=m+1:=HM.out;omega⟩
end
end Go.Proofs.YtegenalcheooeaaGreat
