/- Of the proof of a law of the suites: Lts3. -/
import Derived.Test.YtegenalcheooeaaGreatB03
import Derived.Test.YtegenalcheooeaaGreatB05
set_option linter.unusedSectionVars false
set_option linter.unusedSimpArgs false
set_option linter.unusedVariables false
namespace Go.Proofs.YtegenalcheooeaaGreat
open Go.RowKit
attribute [local go_sem] cell?_exto
section
set_option maxHeartbeats 1000000
set_option maxRecDepth 100000
/- lts.Check: what a transition system is. -/
def isB (a b:Int):Bool:=decide (0<=a) && decide (a<b)
theorem qe8 (a b:Int) (w:World):Calls Tryz.prog 97 #[.int .i64 a,.int .i64 b] w fun e w'=>e = .returned (.bool (isB a b))∧w'=w:=by
 by_cases h:0<=a
 ·have HV:=Hd (show isB a b=decide (a<b) from by simp [isB,h])
  go_enter Tryz.func97,Tryz.ntmps97
  go_wp2_with fail
  go_ret
  exact ⟨by rw [HV.out];rfl,rfl⟩
 ·have HV:=Hd (show isB a b=false from by simp [isB,h])
  go_enter Tryz.func97,Tryz.ntmps97
  go_wp2_with fail
  go_ret
  exact ⟨by rw [HV.out];rfl,rfl⟩
def qjn (l:List Lb) (j:Nat):Prop:=∀ h:j<l.length,qax l[j]=true∧∀ h0:0<j,qan (l[j-1]'(by omega)) l[j]<0
def qbw (s:Sy) (e:Ed):Bool:=isB e.f s.n && isB e.t s.n && isB e.l s.ls.length
def qkf (s:Sy) (j:Nat):Prop:=∀ h:j<s.es.length,qbw s s.es[j]=true∧∀ h0:0<j,qbd (s.es[j-1]'(by omega)) s.es[j]<0
def qag (s:Sy):Prop:=1<=s.n∧s.n<=20000∧s.ls.length<=4000∧s.es.length<=100000∧(∀ j,qjn s.ls j)∧(∀ j,qkf s j)
noncomputable def ckSy (s:Sy):Int:=@ite _ (qag s) (Classical.propDecidable _) 0 8
theorem qgb {s:Sy} (h:¬ qag s):ckSy s=8:=if_neg h
theorem qna {s:Sy} (h:qag s):ckSy s=0:=if_pos h
theorem Check_c (S:Nat->Prop) (s:Sy) (cs:List Value) (w:World) (hx:RSy S w s cs) :
  Calls Tryz.prog 27 #[.agg cs.toArray] w fun e w'=>e = .returned (.int .i64 (ckSy s))∧Ext w w':=by
 obtain ⟨_,v,u,rfl,hv,hu⟩:=id hx
 obtain ⟨A,c,rfl,hc,hc0⟩:=hv.val
 obtain ⟨A',c',rfl,hc',hc0'⟩:=hu.val
 have HL:=Hd hv
 have HE:=Hd hu
 clear hx hv hu
 by_cases hb:1<=s.n∧s.n<=20000∧s.ls.length<=4000∧s.es.length<=100000
 case neg =>
  have HV:=Hd (qgb (s:=s) (fun h=>hb ⟨h.1,h.2.1,h.2.2.1,h.2.2.2.1⟩))
  have h4:1<=s.n->s.n<=20000->(s.ls.length:Int)<=4000->100000<(s.es.length:Int):=by omega
  clear hb
  go_enter Tryz.func27,Tryz.ntmps27
  go_wp2_with fail
  all_goals go_ret
  all_goals exact ⟨by rw [HV.out];rfl,bel⟩
 obtain ⟨b1,b2,b3,b4⟩:=hb
 have b3':(s.ls.length:Int)<=4000:=by omega
 have b4':(s.es.length:Int)<=100000:=by omega
 go_enter Tryz.func27,Tryz.ntmps27
 go_wp2_with fail
 go_loopw [31] (fun i wr=>∃ k:Nat,k<=s.ls.length∧i = .int .i64 k∧Ext w wr∧wr.cell? ⟨w.heap.size,0,none⟩=some (.int .i64 s.n)∧wr.cell? ⟨w.heap.size,1,none⟩=some (.slice A s.ls.length c)∧wr.cell? ⟨w.heap.size,2,none⟩=some (.slice A' s.es.length c')∧w.heap.size<wr.heap.size∧Hid (∀ j,j<k->qjn s.ls j)) (fun i _=>s.ls.length-(intOf i).toNat)
 case atStart=>exact ⟨0,Nat.zero_le _,rfl,bel,by go_simp,by go_simp,by go_simp,by simp,fun j hj=>absurd hj (by omega)⟩
 case round =>
  obtain ⟨k,hk,rfl,hX,q0,q1,q2,hsz,hz⟩:=hrel
  by_cases hlt:k<s.ls.length
  ·obtain ⟨b,off,cs,rfl,hb,hS,hl,hr,hcell⟩:=(qaa.good.bel HL.out hX).get k hlt
   obtain ⟨_,v1,rfl,hv1⟩:=id hr
   have o1:=fun (W:World) (a:Addr) (m:Mode)=>run_store Tryz.prog W a v1 m (RLb.good.one hr v1 (by simp))
   have g0:=hcell.get 0 _
   have g1:=hcell.get 1 _
   simp only [Nat.add_zero] at g0
   have hX2:∀ (o:Obj) (y:World),Ext wr (qak (wr.alloc o) y):=fun o y=>((Ext.refl wr).alloc o).trans' (qa5 _ y)
   have hck:=fun W (hW:Ext wr W)=>qmu S _ _ W (RLb.good.bel hr hW)
   clear hcell hl hS hv1
   cases ho:qax s.ls[k] with
   | false =>
    have HV:=Hd (qgb (s:=s) (fun h=>by have:=(h.2.2.2.2.1 k hlt).1;rw [ho] at this;cases this))
    have e:qc7 s.ls[k]=170:=by rw [qc7,if_neg (by rw [ho];decide)]
    rw [e] at hck
    clear e ho hr
    go_wp2_with fail
    (refine qa1 ?_;(repeat (first | go_big_quiet_step ((go_at_call 96;exact qbe (hck _ (hX2 _ _)))) | quiet_step ((go_at_call 96;exact qbe (hck _ (hX2 _ _))))));refine wpQuiet_nil ?_)
    intro w1 hx1
    go_wp2_with fail
    go_ret
    exact ⟨by rw [HV.out];rfl,bel⟩
   | true =>
    have e:qc7 s.ls[k]=0:=by rw [qc7,if_pos ho]
    rw [e] at hck
    clear e
    rcases k with _ | k
    ·have HO:=Hd ho
     simp only [Nat.zero_mul,Nat.add_zero] at g0 g1
     clear ho hr
     go_wp2_with fail
     (refine qa1 ?_;(repeat (first | go_big_quiet_step ((go_at_call 96;exact qbe (hck _ (hX2 _ _)))) | quiet_step ((go_at_call 96;exact qbe (hck _ (hX2 _ _))))));refine wpQuiet_nil ?_)
     intro w1 hx1
     go_wp2_with fail
     go_roundw
     case rel =>
      refine ⟨1,by omega,by go_num,bel,Ext.keep hx1 (by go_simp),Ext.keep hx1 (by go_simp),Ext.keep hx1 (by go_simp),by have:=hx1.size;simp at this;omega,fun j hj h=>?_⟩
      obtain rfl:j=0:=by omega
      exact ⟨HO.out,fun h0=>absurd h0 (by omega)⟩
     case measure=>simp [intOf];omega
    ·have hk0:k<s.ls.length:=by omega
     obtain ⟨b',off',cs',he,hb',hS',hl',hr',hcell'⟩:=(qaa.good.bel HL.out hX).get k hk0
     injection he with he
     injection he with he1 he2
     subst he1 he2
     obtain ⟨_,v2,rfl,hv2⟩:=id hr'
     have g0':=hcell'.get 0 _
     have g1':=hcell'.get 1 _
     simp only [Nat.add_zero] at g0'
     have hcmp:=fun W (hW:Ext wr W)=>qnn S _ _ _ _ W (RLb.good.bel hr' hW) (RLb.good.bel hr hW)
     have z1:(0:Int)<=(k:Int):=by omega
     have z2:((k:Int)+1)<(s.ls.length:Int):=by omega
     have z4:(k:Int)<(s.ls.length:Int):=by omega
     have z5:(0:Int)<(k:Int)+1:=by omega
     have HO:=Hd ho
     clear ho hr hr' hcell' hl' hS' hv2
     by_cases hc2:qan s.ls[k] s.ls[k+1]<0
     ·have HC:=Hd hc2
      have hd':decide (0<=qan s.ls[k] s.ls[k+1])=false:=by simp;omega
      clear hc2
      go_wp2_with fail
      (refine qa1 ?_;(repeat (first | go_big_quiet_step ((first | (go_at_call 96;exact qbe (hck _ (hX2 _ _))) | (go_at_call 57;exact qap (hcmp _ (hX2 _ _))))) | quiet_step ((first | (go_at_call 96;exact qbe (hck _ (hX2 _ _))) | (go_at_call 57;exact qap (hcmp _ (hX2 _ _)))))));refine wpQuiet_nil ?_)
      intro w1 hx1
      go_wp2_with fail
      go_roundw
      case rel =>
       refine ⟨k+1+1,by omega,by go_num,bel,Ext.keep hx1 (by go_simp),Ext.keep hx1 (by go_simp),Ext.keep hx1 (by go_simp),by have:=hx1.size;simp at this;omega,fun j hj h=>?_⟩
       rcases Nat.lt_or_ge j (k+1) with h' | h'
       ·exact hz j h' h
       ·obtain rfl:j=k+1:=by omega
        exact ⟨HO.out,fun _=>HC.out⟩
      case measure=>simp [intOf];omega
     ·have HV:=Hd (qgb (s:=s) (fun h=>hc2 ((h.2.2.2.2.1 (k+1) hlt).2 (by omega))))
      have hd':0<=qan s.ls[k] s.ls[k+1]:=by omega
      clear hc2
      go_wp2_with fail
      (refine qa1 ?_;(repeat (first | go_big_quiet_step ((first | (go_at_call 96;exact qbe (hck _ (hX2 _ _))) | (go_at_call 57;exact qap (hcmp _ (hX2 _ _))))) | quiet_step ((first | (go_at_call 96;exact qbe (hck _ (hX2 _ _))) | (go_at_call 57;exact qap (hcmp _ (hX2 _ _)))))));refine wpQuiet_nil ?_)
      intro w1 hx1
      go_wp2_with fail
      go_ret
      exact ⟨by rw [HV.out];rfl,bel⟩
  ·have hok:∀ j,qjn s.ls j:=fun j h=>hz j (by omega) h
   have HOK:=Hd hok
   clear hok hz
   go_wp2_with fail
   have q0':=q0
   have q1':=q1
   have q2':=q2
   have hsz':=hsz
   clear q0 q1 q2 hsz hlt hk
   go_loopw [58] (fun i wr=>∃ k:Nat,k<=s.es.length∧i = .int .i64 k∧Ext w wr∧wr.cell? ⟨w.heap.size,0,none⟩=some (.int .i64 s.n)∧wr.cell? ⟨w.heap.size,1,none⟩=some (.slice A s.ls.length c)∧wr.cell? ⟨w.heap.size,2,none⟩=some (.slice A' s.es.length c')∧w.heap.size<wr.heap.size∧Hid (∀ j,j<k->qkf s j)) (fun i _=>s.es.length-(intOf i).toNat)
   case atStart=>exact ⟨0,Nat.zero_le _,rfl,hX,q0',q1',q2',hsz',fun j hj=>absurd hj (by omega)⟩
   case round =>
    clear q0' q1' q2' hsz' hX
    obtain ⟨k,hk,rfl,hX,q0,q1,q2,hsz,hz⟩:=hrel
    have hX2:∀ (o:Obj) (y:World),Ext wr (qak (wr.alloc o) y):=fun o y=>((Ext.refl wr).alloc o).trans' (qa5 _ y)
    by_cases hlt:k<s.es.length
    ·obtain ⟨b,off,cs,rfl,hb,hS,hl,hr,hcell⟩:=(qb5.good.bel HE.out hX).get k hlt
     obtain ⟨_,_,_,rfl⟩:=id hr
     have g0:=hcell.get 0 _
     have g1:=hcell.get 1 _
     have g2:=hcell.get 2 _
     simp only [Nat.add_zero] at g0
     clear hcell hl hS
     cases hf:isB s.es[k].f s.n with
     | false =>
      have HV:=Hd (qgb (s:=s) (fun h=>by have:=(h.2.2.2.2.2 k hlt).1;rw [qbw,hf] at this;cases this))
      clear hr
      go_wp2_with fail
      (refine qa1 ?_;(repeat (first | go_big_quiet_step ((first | (go_at_call 97;exact qb7 (qe8 _ _ _)) | (go_at_call 98;exact qap (hcmp _ (hX2 _ _))))) | quiet_step ((first | (go_at_call 97;exact qb7 (qe8 _ _ _)) | (go_at_call 98;exact qap (hcmp _ (hX2 _ _)))))));refine wpQuiet_nil ?_)
      intro w1 hx1
      go_wp2_with fail
      go_ret
      exact ⟨by rw [HV.out];rfl,bel⟩
     | true =>
      cases ht:isB s.es[k].t s.n with
      | false =>
       have HV:=Hd (qgb (s:=s) (fun h=>by have:=(h.2.2.2.2.2 k hlt).1;rw [qbw,hf,ht] at this;cases this))
       clear hr
       go_wp2_with fail
       (refine qa1 ?_;(repeat (first | go_big_quiet_step ((first | (go_at_call 97;exact qb7 (qe8 _ _ _)) | (go_at_call 98;exact qap (hcmp _ (hX2 _ _))))) | quiet_step ((first | (go_at_call 97;exact qb7 (qe8 _ _ _)) | (go_at_call 98;exact qap (hcmp _ (hX2 _ _)))))));refine wpQuiet_nil ?_)
       intro w1 hx1
       go_wp2_with fail
       go_ret
       exact ⟨by rw [HV.out];rfl,bel⟩
      | true =>
       cases hl:isB s.es[k].l s.ls.length with
       | false =>
        have HV:=Hd (qgb (s:=s) (fun h=>by have:=(h.2.2.2.2.2 k hlt).1;rw [qbw,hf,ht,hl] at this;cases this))
        clear hr
        go_wp2_with fail
        (refine qa1 ?_;(repeat (first | go_big_quiet_step ((first | (go_at_call 97;exact qb7 (qe8 _ _ _)) | (go_at_call 98;exact qap (hcmp _ (hX2 _ _))))) | quiet_step ((first | (go_at_call 97;exact qb7 (qe8 _ _ _)) | (go_at_call 98;exact qap (hcmp _ (hX2 _ _)))))));refine wpQuiet_nil ?_)
        intro w1 hx1
        go_wp2_with fail
        go_ret
        exact ⟨by rw [HV.out];rfl,bel⟩
       | true =>
        have HO:=Hd (show qbw s s.es[k]=true from by rw [qbw,hf,ht,hl];rfl)
        rcases k with _ | k
        ·simp only [Nat.zero_mul,Nat.add_zero] at g0 g1 g2
         clear hr
         go_wp2_with fail
         (refine qa1 ?_;(repeat (first | go_big_quiet_step ((go_at_call 97;exact qb7 (qe8 _ _ _))) | quiet_step ((go_at_call 97;exact qb7 (qe8 _ _ _)))));refine wpQuiet_nil ?_)
         intro w1 hx1
         go_wp2_with fail
         go_roundw
         case rel =>
          refine ⟨1,by omega,by go_num,bel,Ext.keep hx1 (by go_simp),Ext.keep hx1 (by go_simp),Ext.keep hx1 (by go_simp),by have:=hx1.size;simp at this;omega,fun j hj h=>?_⟩
          obtain rfl:j=0:=by omega
          exact ⟨HO.out,fun h0=>absurd h0 (by omega)⟩
         case measure=>simp [intOf];omega
        ·have hk0:k<s.es.length:=by omega
         obtain ⟨b',off',cs',he,hb',hS',hl',hr',hcell'⟩:=(qb5.good.bel HE.out hX).get k hk0
         injection he with he
         injection he with he1 he2
         subst he1 he2
         obtain ⟨_,_,_,rfl⟩:=id hr'
         have g0':=hcell'.get 0 _
         have g1':=hcell'.get 1 _
         have g2':=hcell'.get 2 _
         simp only [Nat.add_zero] at g0'
         have hcmp:=fun W (hW:Ext wr W)=>qqi S _ _ _ _ W (REd.good.bel hr' hW) (REd.good.bel hr hW)
         have z1:(0:Int)<=(k:Int):=by omega
         have z2:((k:Int)+1)<(s.es.length:Int):=by omega
         have z4:(k:Int)<(s.es.length:Int):=by omega
         have z5:(0:Int)<(k:Int)+1:=by omega
         clear hr hr' hcell' hl' hS'
         by_cases hc2:qbd s.es[k] s.es[k+1]<0
         ·have HC:=Hd hc2
          have hd':decide (0<=qbd s.es[k] s.es[k+1])=false:=by simp;omega
          clear hc2
          go_wp2_with fail
          (refine qa1 ?_;(repeat (first | go_big_quiet_step ((first | (go_at_call 97;exact qb7 (qe8 _ _ _)) | (go_at_call 98;exact qap (hcmp _ (hX2 _ _))))) | quiet_step ((first | (go_at_call 97;exact qb7 (qe8 _ _ _)) | (go_at_call 98;exact qap (hcmp _ (hX2 _ _)))))));refine wpQuiet_nil ?_)
          intro w1 hx1
          go_wp2_with fail
          go_roundw
          case rel =>
           refine ⟨k+1+1,by omega,by go_num,bel,Ext.keep hx1 (by go_simp),Ext.keep hx1 (by go_simp),Ext.keep hx1 (by go_simp),by have:=hx1.size;simp at this;omega,fun j hj h=>?_⟩
           rcases Nat.lt_or_ge j (k+1) with h' | h'
           ·exact hz j h' h
           ·obtain rfl:j=k+1:=by omega
            exact ⟨HO.out,fun _=>HC.out⟩
          case measure=>simp [intOf];omega
         ·have HV:=Hd (qgb (s:=s) (fun h=>hc2 ((h.2.2.2.2.2 (k+1) hlt).2 (by omega))))
          have hd':0<=qbd s.es[k] s.es[k+1]:=by omega
          clear hc2
          go_wp2_with fail
          (refine qa1 ?_;(repeat (first | go_big_quiet_step ((first | (go_at_call 97;exact qb7 (qe8 _ _ _)) | (go_at_call 98;exact qap (hcmp _ (hX2 _ _))))) | quiet_step ((first | (go_at_call 97;exact qb7 (qe8 _ _ _)) | (go_at_call 98;exact qap (hcmp _ (hX2 _ _)))))));refine wpQuiet_nil ?_)
          intro w1 hx1
          go_wp2_with fail
          go_ret
          exact ⟨by rw [HV.out];rfl,bel⟩
    ·have HV:=Hd (qna (s:=s) ⟨b1,b2,b3,b4,HOK.out,fun j h=>hz j (by omega) h⟩)
     clear hz
     go_wp2_with fail
     go_ret
     exact ⟨by rw [HV.out];rfl,hX⟩
end
end Go.Proofs.YtegenalcheooeaaGreat
