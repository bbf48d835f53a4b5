/- Joined texts: RunB, Pick, Pack. -/
import Derived.Test.YtkmcengmglgdeaaGreatDoorSDoS
import Derived.Test.YtkmcengmglgdeaaGreatDoorSDraw
import Derived.Test.YtkmcengmglgdeaaGreatDoorSDoI

namespace Go.Proofs.YtkmcengmglgdeaaGreatDoor
set_option linter.unusedVariables false
set_option linter.unusedSimpArgs false
set_option maxRecDepth 100000
set_option maxHeartbeats 8000000
open Go.ChangeShapes Go.WideShapes Go.ChangeAt Go.RowKit
theorem EU {b:aG} {aa:List iP} (h:aN b=false∨¬aa.length≤40):gY b aa=(oG,0):=by
 unfold gY
 rw[if_neg]
 rcases h with h | h<;>simp[h]
theorem vM {b:aG} {aa:List iP} (h:aN b=true) (h':aa.length≤40):gY b aa=nU b aa:=by
 unfold gY;rw[if_pos (by simp[h,h'])]
theorem Jq (v:Value) (b:aG) (A:Option Addr) (n c:Nat) (aa:List iP) (w:World) (h:RdB w w.heap.size v b) (ha:Zp w w.heap.size A n c aa) (hwf:∀a∈aa,(Lit.int .i64 a.number).wf=true):
  Calls Tryz.prog 39 #[v,.slice A n c] w (Gives w (fun v=>.tuple #[v,.int .i64 ((gY b aa).2:Nat)]) fun v=>[aI v (gY b aa).1]):=by
 obtain⟨G,gn,gc,G',n',c',D',dn,dc,hv⟩:=h.form;subst hv;obtain⟨hdn,hdl,hst,-⟩:=h.done;obtain⟨os,hos⟩:∃x,b.order.start=x:=⟨_,rfl⟩;obtain⟨st,ja⟩:∃x,b.state=x:=⟨_,rfl⟩;have lV:=af h;have HD:=af hdn;have gy:Hid (b.done.length=dn):=af hdn.len;have nP:=Bx.mk hos;have kK:=Bx.mk ja;have HA:=af ha;have wB:=af ha.1;have HWF:=af hwf;have acZ:=ha.2.cap;have aaX:=ha.2.dw
 unfold maxLen at aaX
 rw[hos,ja] at lV;rw[hos,ja]
 have S0:St w ((w.alloc (Obj.cells #[.int .i64 os,.slice G gn gc,.slice G' n' c',.slice D' dn dc,.int .i64 st] 28)).alloc (Obj.cells #[.int .i64 0,.slice none 0 0,.slice none 0 0,.slice none 0 0,.int .i64 0] 28)) [ah w.heap.size 28 #[.int .i64 os,.slice G gn gc,.slice G' n' c',.slice D' dn dc,.int .i64 st],ah (w.heap.size+1) 28 #[.int .i64 0,.slice none 0 0,.slice none 0 0,.slice none 0 0,.int .i64 0]]:=by
  have:=((St.refl w).alloc #[.int .i64 os,.slice G gn gc,.slice G' n' c',.slice D' dn dc,.int .i64 st] 28).alloc #[.int .i64 0,.slice none 0 0,.slice none 0 0,.slice none 0 0,.int .i64 0] 28
  simpa using this
 have aS:=af S0;obtain⟨bo,hok⟩:∃x,aN b=x:=⟨_,rfl⟩;have bG:=Bx.mk hok;clear S0 hdn h hos ja hst hok ha hwf
 by_cases hcase:bo=false∨¬n≤40
 ·have HE:Bx (gY b aa=(oG,0)):=Bx.mk (EU (by rcases hcase with h | h;exact .inl (bG.out.trans h);exact .inr (by rw[wB.out];exact h)));go_enter Tryz.func39,Tryz.ntmps39
  go_wp2_with fail
  refine(dF _ b _ (lV.out.up aS.out.below)).mono ?_;rw[bG.out];rintro e w1 ⟨rfl,hb1⟩;have bf:=af (aS.out.quiet hb1);have q1:=bf.out.cells 1 rfl;have f1:=bf.out.free 1 rfl;clear hb1
  cases bo with
  |false=>
   go_wp2;refine bodyPost_ret (v:=.tuple #[.agg #[.int .i64 0,.slice none 0 0,.slice none 0 0,.slice none 0 0,.int .i64 0],.int .i64 0]) (by simp[results,Tryz.results39,go_sem,q1]) rfl ⟨.agg #[.int .i64 0,.slice none 0 0,.slice none 0 0,.slice none 0 0,.int .i64 0],by rw[HE.out];rfl,?_⟩;rw[HE.out];exact St.book0 (bf.out.fF 1 rfl _ _ _ _ _).below
  |true=>
   have uf:(40:Int)<(n:Int):=by rcases hcase with h | h;cases h;omega
   clear hcase;go_wp2;refine bodyPost_ret (v:=.tuple #[.agg #[.int .i64 0,.slice none 0 0,.slice none 0 0,.slice none 0 0,.int .i64 0],.int .i64 0]) (by simp[results,Tryz.results39,go_sem,q1]) rfl ⟨.agg #[.int .i64 0,.slice none 0 0,.slice none 0 0,.slice none 0 0,.int .i64 0],by rw[HE.out];rfl,?_⟩;rw[HE.out];exact St.book0 (bf.out.fF 1 rfl _ _ _ _ _).below
 ·have yt:bo=true:=by cases bo<;>simp_all
  subst yt;have kQ:n≤40:=by omega
  have PZ:¬(40:Int)<(n:Int):=by omega
  have HY:Bx (gY b aa=nU b aa):=Bx.mk (vM bG.out (by rw[wB.out];exact kQ));have um:=Bx.mk (bF bG.out).1;have zM:dn≤40:=by rw[←gy.out];exact(bF bG.out).2.1
  clear hcase;go_enter Tryz.func39,Tryz.ntmps39
  go_wp2_with fail
  refine(dF _ b _ (lV.out.up aS.out.below)).mono ?_;rw[bG.out];rintro e w1 ⟨rfl,hb1⟩;have bf:=af (aS.out.quiet hb1);have q1:=bf.out.cells 0 rfl;clear hb1 aS
  go_wp2_with fail
  refine(pq _ b _ (lV.out.up bf.out.below)).mono ?_;rintro e w2 ⟨v2,rfl,s2⟩;obtain⟨A1,n1,c1,A2,n2,c2,A3,n3,c3,hv⟩:=s2.gU 0 rfl;rw[nP.out,kK.out] at hv;simp only[id_eq] at hv ⊢
  subst hv;obtain⟨g6,yu⟩:∃g,w2.heap.size=g:=⟨_,rfl⟩;have HS2:Hid (St w (w2.alloc (.cells #[.int .i64 os,.slice A1 n1 c1,.slice A2 n2 c2,.slice A3 n3 c3,.int .i64 st] 28)) [ah w.heap.size 28 #[.int .i64 os,.slice G gn gc,.slice G' n' c',.slice D' dn dc,.int .i64 st],ah (w.heap.size+1) 28 #[.int .i64 0,.slice none 0 0,.slice none 0 0,.slice none 0 0,.int .i64 0],ah g6 28 #[.int .i64 os,.slice A1 n1 c1,.slice A2 n2 c2,.slice A3 n3 c3,.int .i64 st],aI (.agg #[.int .i64 os,.slice A1 n1 c1,.slice A2 n2 c2,.slice A3 n3 c3,.int .i64 st]) b]):=af (by rw[←yu];exact((bf.out.call s2).alloc _ _).pick [0,1,3,2] (by decide) rfl rfl);clear s2 bf q1
  try rw[yu]
  go_wp2
  go_loopw [25,7] (fun i cv wr=>∃(k cnt:Nat) (bk:aG) (cs ct:Int) (B1:Option Addr) (m1 d1:Nat) (B2:Option Addr) (m2 d2:Nat) (B3:Option Addr) (m3 d3:Nat),k≤n∧cnt≤40∧i= .int .i64 k∧cv= .int .i64 cnt∧Bx (runK b aa k=(bk,cnt))∧St w wr [ah w.heap.size 28 #[.int .i64 os,.slice G gn gc,.slice G' n' c',.slice D' dn dc,.int .i64 st],ah (w.heap.size+1) 28 #[.int .i64 0,.slice none 0 0,.slice none 0 0,.slice none 0 0,.int .i64 0],ah g6 28 #[.int .i64 cs,.slice B1 m1 d1,.slice B2 m2 d2,.slice B3 m3 d3,.int .i64 ct],aI (.agg #[.int .i64 cs,.slice B1 m1 d1,.slice B2 m2 d2,.slice B3 m3 d3,.int .i64 ct]) bk]) (fun i _ _=>n-(intOf i).toNat)
  case atStart=>exact⟨0,0,b,os,st,_,_,_,_,_,_,_,_,_,by omega,by omega,rfl,rfl,Bx.mk (Gy b aa),by have h:=HS2.out;first | exact h | (rw[←yu] at h ⊢;exact h)⟩
  case round=>
   clear HS2;obtain⟨k,cnt,bk,cs,ct,B1,m1,d1,B2,m2,d2,B3,m3,d3,hk,hcnt,rfl,rfl,TQ,S⟩:=hrel;have HS:=af S;have q6:=S.cells 2 rfl;have q5:=S.cells 1 rfl;have f6:=S.free 2 rfl;have f5:=S.free 1 rfl;clear S;have HKO:=Bx.mk (vT (b:=b) aa k bG.out);rw[TQ.out] at HKO
   by_cases hlt:k<n
   ·obtain⟨ab,nK,a,rfl,hab,hat,ha0,ha1⟩:=HA.out.get hlt;obtain⟨ak,am⟩:=a;have HAB:=af hab;have ZC:=af ha0;have HC1:=af ha1;have HAW:=af (HWF.out _ (bT hat));have Q5:Hid ((k:Int)<(n:Int)):=af (by omega);have qW:=Bx.mk (Gz (b:=b) hat);rw[TQ.out] at qW;have aaY:=Bx.mk (vT (b:=b) aa (k+1) bG.out)
    simp only at HAW ZC HC1
    obtain⟨nb,hnb⟩:∃x,dY bk ⟨ak,am⟩=x:=⟨_,rfl⟩;obtain⟨did,wE⟩:∃x,eY bk ⟨ak,am⟩=x:=⟨_,rfl⟩;obtain⟨ns,hns⟩:∃x,nb.order.start=x:=⟨_,rfl⟩;obtain⟨nt,hnt⟩:∃x,nb.state=x:=⟨_,rfl⟩;have Wi:=Bx.mk hnb;have Es:=Bx.mk wE;have Q9:=Bx.mk hns;have Rf:=Bx.mk hnt;have Vl:=wB
    have hnn:eY bk ⟨ak,am⟩=false→nb=bk:=fun h=>by
     rw[←hnb];have hbk:=HKO.out.1
     cases hd:aZ bk ⟨ak,am⟩ with
     |none=>exact(fV hbk hd).1
     |some d=>rw[(iZ hbk hd).2] at h;cases h
    rw[Wi.out,Es.out] at qW;rw[qW.out] at aaY;have NK:=Bx.mk hnn;rw[Es.out] at NK;clear hnb wE hns hnt hnn hab hat ha0 ha1;have r0:wr.cell? ⟨ab,nK+k*2,none⟩=some (.int .i64 ak):=(aF HS.out.below ab _ HAB.out).trans ZC.out;have r1:wr.cell? ⟨ab,nK+k*2+1,none⟩=some (.int .i64 am):=(aF HS.out.below ab _ HAB.out).trans HC1.out;have cu:=af ((HS.out.alloc #[.int .i64 ak,.int .i64 am] 64).pick [0,1,2,3] (by decide) rfl rfl);have q3:=cu.out.cells 2 rfl;have hki:=Q5.out;clear HS f5 f6 q5
    go_wp2_with fail
    refine(Ba _ bk ak am _ (cu.out.CX 3 rfl) HAW.out).mono ?_;rw[Wi.out,Es.out];rintro e w4 ⟨v4,rfl,s4⟩;obtain⟨N1,e1,u1,N2,e2,u2,N3,e3,u3,hv⟩:=s4.gU 0 rfl;rw[Q9.out,Rf.out] at hv;subst hv;obtain⟨g9,WC⟩:∃g,w4.heap.size=g:=⟨_,rfl⟩;have je:Hid (St w (w4.alloc (.cells #[.int .i64 ns,.slice N1 e1 u1,.slice N2 e2 u2,.slice N3 e3 u3,.int .i64 nt] 28)) [ah w.heap.size 28 #[.int .i64 os,.slice G gn gc,.slice G' n' c',.slice D' dn dc,.int .i64 st],ah (w.heap.size+1) 28 #[.int .i64 0,.slice none 0 0,.slice none 0 0,.slice none 0 0,.int .i64 0],ah g6 28 #[.int .i64 cs,.slice B1 m1 d1,.slice B2 m2 d2,.slice B3 m3 d3,.int .i64 ct],aI (.agg #[.int .i64 cs,.slice B1 m1 d1,.slice B2 m2 d2,.slice B3 m3 d3,.int .i64 ct]) bk,aI (.agg #[.int .i64 ns,.slice N1 e1 u1,.slice N2 e2 u2,.slice N3 e3 u3,.int .i64 nt]) nb,ah g9 28 #[.int .i64 ns,.slice N1 e1 u1,.slice N2 e2 u2,.slice N3 e3 u3,.int .i64 nt]]):=af (by rw[←WC];exact(cu.out.call s4).alloc _ _);clear s4 cu r0 r1 q6 q3
    try rw[WC]
    have q7:=je.out.cells 2 rfl;have q8:=je.out.cells 5 rfl;have f7:=je.out.free 2 rfl
    cases did with
    |false=>
     have JJ:Bx (runK b aa (k+1)=(bk,cnt)):=Bx.mk (by rw[qW.out,NK.out rfl];rfl);have nJ:=af (je.out.pick [0,1,2,3] (by decide) rfl rfl);go_wp2
     go_roundw
     case rel=>exact⟨k+1,cnt,bk,cs,ct,B1,m1,d1,B2,m2,d2,B3,m3,d3,by omega,hcnt,by go_num,rfl,JJ,nJ.out⟩
     case measure=>simp[intOf];omega
    |true=>
     have JJ:Bx (runK b aa (k+1)=(nb,cnt+1)):=Bx.mk (by rw[qW.out];rfl)
     have hcnt2:cnt+1≤40:=by
      have:=(vT (b:=b) aa (k+1) bG.out).2.2
      rw[JJ.out,wB.out] at this;exact Nat.le_trans this kQ
     have ac0:(cnt:Int)+1≤40:=by omega
     have nJ:Hid (St w ((((((w4.alloc (.cells #[.int .i64 ns,.slice N1 e1 u1,.slice N2 e2 u2,.slice N3 e3 u3,.int .i64 nt] 28)).setCell ⟨g6,0,none⟩ (.int .i64 ns)).setCell ⟨g6,1,none⟩ (.slice N1 e1 u1)).setCell ⟨g6,2,none⟩ (.slice N2 e2 u2)).setCell ⟨g6,3,none⟩ (.slice N3 e3 u3)).setCell ⟨g6,4,none⟩ (.int .i64 nt)) [ah w.heap.size 28 #[.int .i64 os,.slice G gn gc,.slice G' n' c',.slice D' dn dc,.int .i64 st],ah (w.heap.size+1) 28 #[.int .i64 0,.slice none 0 0,.slice none 0 0,.slice none 0 0,.int .i64 0],ah g6 28 #[.int .i64 ns,.slice N1 e1 u1,.slice N2 e2 u2,.slice N3 e3 u3,.int .i64 nt],aI (.agg #[.int .i64 ns,.slice N1 e1 u1,.slice N2 e2 u2,.slice N3 e3 u3,.int .i64 nt]) nb]):=af ((je.out.fF 2 rfl (.int .i64 ns) (.slice N1 e1 u1) (.slice N2 e2 u2) (.slice N3 e3 u3) (.int .i64 nt)).pick [0,1,2,4] (by decide) rfl rfl);go_wp2
     go_roundw
     case rel=>exact⟨k+1,cnt+1,nb,ns,nt,N1,e1,u1,N2,e2,u2,N3,e3,u3,by omega,hcnt2,by go_num,by go_num,JJ,nJ.out⟩
     case measure=>simp[intOf];omega
   ·obtain rfl:k=n:=by omega
    have HE:Bx (nU b aa=(bk,cnt)):=Bx.mk (by rw[←TQ.out,Ld b aa (by rw[wB.out];exact aA _)]);go_wp2;have fP:=af (HS.out.fF 1 rfl (.int .i64 cs) (.slice B1 m1 d1) (.slice B2 m2 d2) (.slice B3 m3 d3) (.int .i64 ct));have q9:=fP.out.cells 1 rfl;refine bodyPost_ret (v:=.tuple #[.agg #[.int .i64 cs,.slice B1 m1 d1,.slice B2 m2 d2,.slice B3 m3 d3,.int .i64 ct],.int .i64 (cnt:Nat)]) (by simp[results,Tryz.results39,go_sem,q5,f5]) rfl ⟨.agg #[.int .i64 cs,.slice B1 m1 d1,.slice B2 m2 d2,.slice B3 m3 d3,.int .i64 ct],by rw[HY.out,HE.out],?_⟩;rw[HY.out,HE.out];exact fP.out.pick [3] (by decide) rfl rfl
theorem Jo (v:Value) (b:aG) (A:Option Addr) (n c:Nat) (aa:List iP) (w:World) (h:RdB w w.heap.size v b) (ha:Zp w w.heap.size A n c aa) (hwf:∀a∈aa,(Lit.int .i64 a.number).wf=true):
  Calls Tryz.prog 58 #[v,.slice A n c] w (Gives w (fun v=>.tuple #[v,.int .i64 ((gY b aa).2:Nat)]) fun v=>[aI v (gY b aa).1]):=by
 obtain⟨G,gn,gc,G',n',c',D',dn,dc,hv⟩:=h.form;subst hv;obtain⟨hdn,hdl,hst,-⟩:=h.done;obtain⟨os,hos⟩:∃x,b.order.start=x:=⟨_,rfl⟩;obtain⟨st,ja⟩:∃x,b.state=x:=⟨_,rfl⟩;have lV:=af h;have HD:=af hdn;have gy:Hid (b.done.length=dn):=af hdn.len;have nP:=Bx.mk hos;have kK:=Bx.mk ja;have HA:=af ha;have wB:=af ha.1;have HWF:=af hwf;have acZ:=ha.2.cap;have aaX:=ha.2.dw
 unfold maxLen at aaX
 rw[hos,ja] at lV;rw[hos,ja]
 have S0:St w ((w.alloc (Obj.cells #[.int .i64 os,.slice G gn gc,.slice G' n' c',.slice D' dn dc,.int .i64 st] 28)).alloc (Obj.cells #[.int .i64 0,.slice none 0 0,.slice none 0 0,.slice none 0 0,.int .i64 0] 28)) [ah w.heap.size 28 #[.int .i64 os,.slice G gn gc,.slice G' n' c',.slice D' dn dc,.int .i64 st],ah (w.heap.size+1) 28 #[.int .i64 0,.slice none 0 0,.slice none 0 0,.slice none 0 0,.int .i64 0]]:=by
  have:=((St.refl w).alloc #[.int .i64 os,.slice G gn gc,.slice G' n' c',.slice D' dn dc,.int .i64 st] 28).alloc #[.int .i64 0,.slice none 0 0,.slice none 0 0,.slice none 0 0,.int .i64 0] 28
  simpa using this
 have aS:=af S0;obtain⟨bo,hok⟩:∃x,aN b=x:=⟨_,rfl⟩;have bG:=Bx.mk hok;clear S0 hdn h hos ja hst hok ha hwf
 by_cases hcase:bo=false∨¬n≤40
 ·have HE:Bx (gY b aa=(oG,0)):=Bx.mk (EU (by rcases hcase with h | h;exact .inl (bG.out.trans h);exact .inr (by rw[wB.out];exact h)));go_enter Tryz.func58,Tryz.ntmps58
  go_wp2_with fail
  refine(dM _ b _ (lV.out.up aS.out.below)).mono ?_;rw[bG.out];rintro e w1 ⟨rfl,hb1⟩;have bf:=af (aS.out.quiet hb1);have q1:=bf.out.cells 1 rfl;have f1:=bf.out.free 1 rfl;clear hb1
  cases bo with
  |false=>
   go_wp2;refine bodyPost_ret (v:=.tuple #[.agg #[.int .i64 0,.slice none 0 0,.slice none 0 0,.slice none 0 0,.int .i64 0],.int .i64 0]) (by simp[results,Tryz.results58,go_sem,q1]) rfl ⟨.agg #[.int .i64 0,.slice none 0 0,.slice none 0 0,.slice none 0 0,.int .i64 0],by rw[HE.out];rfl,?_⟩;rw[HE.out];exact St.book0 (bf.out.fF 1 rfl _ _ _ _ _).below
  |true=>
   have uf:(40:Int)<(n:Int):=by rcases hcase with h | h;cases h;omega
   clear hcase;go_wp2;refine bodyPost_ret (v:=.tuple #[.agg #[.int .i64 0,.slice none 0 0,.slice none 0 0,.slice none 0 0,.int .i64 0],.int .i64 0]) (by simp[results,Tryz.results58,go_sem,q1]) rfl ⟨.agg #[.int .i64 0,.slice none 0 0,.slice none 0 0,.slice none 0 0,.int .i64 0],by rw[HE.out];rfl,?_⟩;rw[HE.out];exact St.book0 (bf.out.fF 1 rfl _ _ _ _ _).below
 ·have yt:bo=true:=by cases bo<;>simp_all
  subst yt;have kQ:n≤40:=by omega
  have PZ:¬(40:Int)<(n:Int):=by omega
  have HY:Bx (gY b aa=nU b aa):=Bx.mk (vM bG.out (by rw[wB.out];exact kQ));have um:=Bx.mk (bF bG.out).1;have zM:dn≤40:=by rw[←gy.out];exact(bF bG.out).2.1
  clear hcase;go_enter Tryz.func58,Tryz.ntmps58
  go_wp2_with fail
  refine(dM _ b _ (lV.out.up aS.out.below)).mono ?_;rw[bG.out];rintro e w1 ⟨rfl,hb1⟩;have bf:=af (aS.out.quiet hb1);have q1:=bf.out.cells 0 rfl;clear hb1 aS
  go_wp2_with fail
  refine(eP _ b D' dn dc b.done _ (lV.out.up bf.out.below) um.out (HD.out.up bf.out.below) (by omega)).mono ?_;rw[fB bG.out];rintro e w2 ⟨v2,rfl,s2⟩;obtain⟨A1,n1,c1,A2,n2,c2,A3,n3,c3,hv⟩:=s2.gU 0 rfl;rw[nP.out,kK.out] at hv;simp only[id_eq] at hv ⊢
  subst hv;obtain⟨g6,yu⟩:∃g,w2.heap.size=g:=⟨_,rfl⟩;have HS2:Hid (St w (w2.alloc (.cells #[.int .i64 os,.slice A1 n1 c1,.slice A2 n2 c2,.slice A3 n3 c3,.int .i64 st] 28)) [ah w.heap.size 28 #[.int .i64 os,.slice G gn gc,.slice G' n' c',.slice D' dn dc,.int .i64 st],ah (w.heap.size+1) 28 #[.int .i64 0,.slice none 0 0,.slice none 0 0,.slice none 0 0,.int .i64 0],ah g6 28 #[.int .i64 os,.slice A1 n1 c1,.slice A2 n2 c2,.slice A3 n3 c3,.int .i64 st],aI (.agg #[.int .i64 os,.slice A1 n1 c1,.slice A2 n2 c2,.slice A3 n3 c3,.int .i64 st]) b]):=af (by rw[←yu];exact((bf.out.call s2).alloc _ _).pick [0,1,3,2] (by decide) rfl rfl);clear s2 bf q1
  try rw[yu]
  go_wp2
  go_loopw [8,7] (fun i cv wr=>∃(k cnt:Nat) (bk:aG) (cs ct:Int) (B1:Option Addr) (m1 d1:Nat) (B2:Option Addr) (m2 d2:Nat) (B3:Option Addr) (m3 d3:Nat),k≤n∧cnt≤40∧i= .int .i64 k∧cv= .int .i64 cnt∧Bx (runK b aa k=(bk,cnt))∧St w wr [ah w.heap.size 28 #[.int .i64 os,.slice G gn gc,.slice G' n' c',.slice D' dn dc,.int .i64 st],ah (w.heap.size+1) 28 #[.int .i64 0,.slice none 0 0,.slice none 0 0,.slice none 0 0,.int .i64 0],ah g6 28 #[.int .i64 cs,.slice B1 m1 d1,.slice B2 m2 d2,.slice B3 m3 d3,.int .i64 ct],aI (.agg #[.int .i64 cs,.slice B1 m1 d1,.slice B2 m2 d2,.slice B3 m3 d3,.int .i64 ct]) bk]) (fun i _ _=>n-(intOf i).toNat)
  case atStart=>exact⟨0,0,b,os,st,_,_,_,_,_,_,_,_,_,by omega,by omega,rfl,rfl,Bx.mk (Gy b aa),by have h:=HS2.out;first | exact h | (rw[←yu] at h ⊢;exact h)⟩
  case round=>
   clear HS2;obtain⟨k,cnt,bk,cs,ct,B1,m1,d1,B2,m2,d2,B3,m3,d3,hk,hcnt,rfl,rfl,TQ,S⟩:=hrel;have HS:=af S;have q6:=S.cells 2 rfl;have q5:=S.cells 1 rfl;have f6:=S.free 2 rfl;have f5:=S.free 1 rfl;clear S;have HKO:=Bx.mk (vT (b:=b) aa k bG.out);rw[TQ.out] at HKO
   by_cases hlt:k<n
   ·obtain⟨ab,nK,a,rfl,hab,hat,ha0,ha1⟩:=HA.out.get hlt;obtain⟨ak,am⟩:=a;have HAB:=af hab;have ZC:=af ha0;have HC1:=af ha1;have HAW:=af (HWF.out _ (bT hat));have Q5:Hid ((k:Int)<(n:Int)):=af (by omega);have qW:=Bx.mk (Gz (b:=b) hat);rw[TQ.out] at qW;have aaY:=Bx.mk (vT (b:=b) aa (k+1) bG.out)
    simp only at HAW ZC HC1
    obtain⟨nb,hnb⟩:∃x,dY bk ⟨ak,am⟩=x:=⟨_,rfl⟩;obtain⟨did,wE⟩:∃x,eY bk ⟨ak,am⟩=x:=⟨_,rfl⟩;obtain⟨ns,hns⟩:∃x,nb.order.start=x:=⟨_,rfl⟩;obtain⟨nt,hnt⟩:∃x,nb.state=x:=⟨_,rfl⟩;have Wi:=Bx.mk hnb;have Es:=Bx.mk wE;have Q9:=Bx.mk hns;have Rf:=Bx.mk hnt;have Vl:=wB
    have hnn:eY bk ⟨ak,am⟩=false→nb=bk:=fun h=>by
     rw[←hnb];have hbk:=HKO.out.1
     cases hd:aZ bk ⟨ak,am⟩ with
     |none=>exact(fV hbk hd).1
     |some d=>rw[(iZ hbk hd).2] at h;cases h
    rw[Wi.out,Es.out] at qW;rw[qW.out] at aaY;have NK:=Bx.mk hnn;rw[Es.out] at NK;clear hnb wE hns hnt hnn hab hat ha0 ha1;have hki:=Q5.out
    go_upto_region 8 with(fail)
    clear q5 q6 f5 f6
    refine kG (σ:=((Option Addr×Nat×Nat)×(Option Addr×Nat×Nat)×(Option Addr×Nat×Nat))×Nat)
     (fun s i=>match i with
      |0=>.agg #[.int .i64 cs,.slice B1 m1 d1,.slice B2 m2 d2,.slice B3 m3 d3,.int .i64 ct]
      |1=>.slice (some ⟨ab,nK,none⟩) n c
      |2=>.int .i64 (k:Int)
      |3=>.pointer (some ⟨ab,(nK+k*2),none⟩)
      |4=>.agg #[.int .i64 ak,.int .i64 am]
      |5=>.tuple #[.agg #[.int .i64 ns,.slice s.1.1.1 s.1.1.2.1 s.1.1.2.2,.slice s.1.2.1.1 s.1.2.1.2.1 s.1.2.1.2.2,.slice s.1.2.2.1 s.1.2.2.2.1 s.1.2.2.2.2,.int .i64 nt],.bool did]
      |6=>.tuple #[.agg #[.int .i64 ns,.slice s.1.1.1 s.1.1.2.1 s.1.1.2.2,.slice s.1.2.1.1 s.1.2.1.2.1 s.1.2.1.2.2,.slice s.1.2.2.1 s.1.2.2.2.1 s.1.2.2.2.2,.int .i64 nt],.bool did]
      |7=>.agg #[.int .i64 ns,.slice s.1.1.1 s.1.1.2.1 s.1.1.2.2,.slice s.1.2.1.1 s.1.2.1.2.1 s.1.2.1.2.2,.slice s.1.2.2.1 s.1.2.2.2.1 s.1.2.2.2.2,.int .i64 nt]
      |8=>.bool did
      |9=>.pointer (some ⟨s.2,0,none⟩)
      |11=>.bool did
      |_=>undef)
     (fun D s wy=>Sn w wy fun i=>match i with
      |0=>some (ah w.heap.size 28 #[.int .i64 os,.slice G gn gc,.slice G' n' c',.slice D' dn dc,.int .i64 st])
      |1=>some (ah (w.heap.size+1) 28 #[.int .i64 0,.slice none 0 0,.slice none 0 0,.slice none 0 0,.int .i64 0])
      |2=>some (ah g6 28 #[.int .i64 cs,.slice B1 m1 d1,.slice B2 m2 d2,.slice B3 m3 d3,.int .i64 ct])
      |3=>some (aI (.agg #[.int .i64 cs,.slice B1 m1 d1,.slice B2 m2 d2,.slice B3 m3 d3,.int .i64 ct]) bk)
      |4=>if D 5=true then some (aI (.agg #[.int .i64 ns,.slice s.1.1.1 s.1.1.2.1 s.1.1.2.2,.slice s.1.2.1.1 s.1.2.1.2.1 s.1.2.1.2.2,.slice s.1.2.2.1 s.1.2.2.2.1 s.1.2.2.2.2,.int .i64 nt]) nb) else none
      |5=>if D 9=true then some (ah s.2 28 (if D 10=true then #[.int .i64 ns,.slice s.1.1.1 s.1.1.2.1 s.1.1.2.2,.slice s.1.2.1.1 s.1.2.1.2.1 s.1.2.1.2.2,.slice s.1.2.2.1 s.1.2.2.2.1 s.1.2.2.2.2,.int .i64 nt] else #[.int .i64 0,.slice none 0 0,.slice none 0 0,.slice none 0 0,.int .i64 0])) else none
      |_=>none)
     (((none,0,0),(none,0,0),(none,0,0)),0) ?_ ?_ ?_
    ·intro D hD;refine((Sn.dN HS.out).quiet ((ai _ _).drew)).congr fun i=>?_
     match i with
     |0 | 1 | 2 | 3=>rfl
     |4=>simp only[hD 5 (by decide)];rfl
     |5=>simp only[hD 9 (by decide)];rfl
     |q+6=>rfl
    ·refine Cs (fun D s wy hR _ hd _ _ hs K hK=>?_) ?_
     ·have e6:=hs.o 6 (.pointer (some ⟨g6,0,none⟩));clear hs;have qk:=(hR.blk 2 rfl).cell;go_simp;exact hK s wy sv hR
     refine Cs (fun D s wy hR _ hd _ _ hs K hK=>?_) ?_
     ·have e1:=hs.o 1 (.slice (some ⟨ab,nK,none⟩) n c);clear hs;go_simp;exact hK s wy sv hR
     refine Cs (fun D s wy hR _ hd _ _ hs K hK=>?_) ?_
     ·have e8:=hs.o 8 (.int .i64 (k:Int));clear hs;go_simp;exact hK s wy sv hR
     refine Cs (fun D s wy hR _ hd _ _ hs K hK=>?_) ?_
     ·have e32:=hs.v 1 32 hd;have e33:=hs.v 2 33 hd;clear hs;have hki:=Q5.out;go_simp;exact hK s wy sv hR
     refine Cs (fun D s wy hR _ hd _ _ hs K hK=>?_) ?_
     ·have e34:=hs.v 3 34 hd;clear hs;have c0:wy.cell? ⟨ab,nK+k*2,none⟩=some (.int .i64 ak):=(aF hR.below ab _ HAB.out).trans ZC.out;have c1:wy.cell? ⟨ab,nK+k*2+1,none⟩=some (.int .i64 am):=(aF hR.below ab _ HAB.out).trans HC1.out;go_simp;exact hK s wy sv hR
     refine Cs (fun D s wy hR (hDi:D 5=false) hd hsh _ hs K hK=>?_) ?_
     ·have e31:=hs.v 0 31 hd;have e35:=hs.v 4 35 hd;have g31:=aX e31;have g35:=aX e35;clear hs;have n6:D 6=false:=hsh.no hDi 6 rfl ⟨5,.data⟩ (by simp) rfl rfl;have n7:D 7=false:=hsh.no n6 7 rfl ⟨6,.data⟩ (by simp) rfl rfl;have n8:D 8=false:=hsh.no n6 8 rfl ⟨6,.data⟩ (by simp) rfl rfl;have n10:D 10=false:=hsh.no n7 10 rfl ⟨7,.data⟩ (by simp) rfl rfl;have n11:D 11=false:=hsh.no n8 11 rfl ⟨8,.data⟩ (by simp) rfl rfl;go_simp;refine(uy _ bk ak am _ (hR.CX 3 rfl) HAW.out).mono ?_;rw[Wi.out,Es.out];rintro e2 w2 ⟨v2,rfl,s2⟩;obtain⟨A1,n1,c1,A2,n2,c2,A3,n3,c3,hv⟩:=s2.gU 0 rfl;rw[Q9.out,Rf.out] at hv;subst hv
      refine hK (((A1,n1,c1),(A2,n2,c2),(A3,n3,c3)),s.2) w2
       (fun j hj=>by
        match j,hj with
        |0,hj | 1,hj | 2,hj | 3,hj | 4,hj=>rfl
        |5,hj=>rw[hDi] at hj;cases hj
        |6,hj=>rw[n6] at hj;cases hj
        |7,hj=>rw[n7] at hj;cases hj
        |8,hj=>rw[n8] at hj;cases hj
        |9,hj=>rfl
        |10,hj=>rw[n10] at hj;cases hj
        |11,hj=>rw[n11] at hj;cases hj
        |_+12,hj=>rfl)
       ((hR.add 4 (if_neg (by rw[hDi];simp)) s2).congr
        (fun i=>by
         match i with
         |0 | 1 | 2 | 3 | 4=>rfl
         |5=>(show(if D 9=true then some (ah _ _ (if D 10=true then _ else _)) else none)=(if D 9=true then some (ah _ _ (if D 10=true then _ else _)) else none);rw[n10]<;>rfl)
         |q+6=>exact(if_neg (show¬(q+6=4) by omega)).symm))
     refine Cs (fun D s wy hR _ hd _ _ hs K hK=>?_) ?_
     ·have e36:=hs.v 5 36 hd;clear hs;go_simp;exact hK s wy sv hR
     refine Cs (fun D s wy hR _ hd _ _ hs K hK=>?_) ?_
     ·have e30:=hs.v 6 30 hd;clear hs;go_simp;exact hK s wy sv hR
     refine Cs (fun D s wy hR _ hd _ _ hs K hK=>?_) ?_
     ·have e30:=hs.v 6 30 hd;clear hs;go_simp;exact hK s wy sv hR
     refine Cs (fun D s wy hR (hDi:D 9=false) hd hsh _ hs K hK=>?_) ?_
     ·clear hs;have n10:D 10=false:=hsh.no hDi 10 rfl ⟨9,.data⟩ (by simp) rfl rfl;go_simp
      refine hK (s.1,wy.heap.size) _
       (fun j hj=>by
        match j,hj with
        |0,hj | 1,hj | 2,hj | 3,hj | 4,hj | 5,hj | 6,hj | 7,hj | 8,hj=>rfl
        |9,hj=>rw[hDi] at hj;cases hj
        |10,hj | 11,hj=>rfl
        |_+12,hj=>rfl)
       ((hR.add 5 (if_neg (by rw[hDi];simp)) (St.new1 wy #[.int .i64 0,.slice none 0 0,.slice none 0 0,.slice none 0 0,.int .i64 0] 28)).congr
        (fun i=>by
         match i with
         |0 | 1 | 2 | 3 | 4=>rfl
         |5=>(show some (ah _ _ (if D 10=true then _ else _))=some (ah _ _ _);rw[n10]<;>rfl)
         |q+6=>exact(if_neg (show¬(q+6=5) by omega)).symm))
     refine Cs (fun D s wy hR (hDi:D 10=false) hd _ _ hs K hK=>?_) ?_
     ·have e9:=hs.v 9 9 hd;have e37:=hs.v 7 37 hd;clear hs;have d9:D 9=true:=hd ⟨9,.data⟩ (by simp) rfl;have kb:fU wy s.2 28 #[.int .i64 0,.slice none 0 0,.slice none 0 0,.slice none 0 0,.int .i64 0]:=hR.blk 5 (by simp only[d9,hDi]<;>rfl);have f0:=kb.frozen;have qk:=kb.cell;go_simp
      exact hK s _ sv ((hR.fF 5 (by simp only[d9,hDi];rfl) _ _ _ _ _).congr
       (fun i=>by
        match i with
        |0 | 1 | 2 | 3 | 4=>rfl
        |5=>(show(if D 9=true then some (ah _ _ _) else none)=some (ah _ _ _);rw[d9];rfl)
        |q+6=>exact(if_neg (show¬(q+6=5) by omega)).symm))
     refine Cs (fun D s wy hR _ hd _ _ hs K hK=>?_) ?_
     ·have e38:=hs.v 8 38 hd;clear hs;go_simp;exact hK s wy sv hR
     exact aj.nil
    ·intro D s wy hR hD;simp only[eH,Act.put,aO,aU,aW];have uo:=hR.eG [0,1,2,3,4,5] (L:=[ah w.heap.size 28 #[.int .i64 os,.slice G gn gc,.slice G' n' c',.slice D' dn dc,.int .i64 st],ah (w.heap.size+1) 28 #[.int .i64 0,.slice none 0 0,.slice none 0 0,.slice none 0 0,.int .i64 0],ah g6 28 #[.int .i64 cs,.slice B1 m1 d1,.slice B2 m2 d2,.slice B3 m3 d3,.int .i64 ct],aI (.agg #[.int .i64 cs,.slice B1 m1 d1,.slice B2 m2 d2,.slice B3 m3 d3,.int .i64 ct]) bk,aI (.agg #[.int .i64 ns,.slice s.1.1.1 s.1.1.2.1 s.1.1.2.2,.slice s.1.2.1.1 s.1.2.1.2.1 s.1.2.1.2.2,.slice s.1.2.2.1 s.1.2.2.2.1 s.1.2.2.2.2,.int .i64 nt]) nb,ah s.2 28 #[.int .i64 ns,.slice s.1.1.1 s.1.1.2.1 s.1.1.2.2,.slice s.1.2.1.1 s.1.2.1.2.1 s.1.2.1.2.2,.slice s.1.2.2.1 s.1.2.2.2.1 s.1.2.2.2.2,.int .i64 nt]]) (by decide) (by simp only[List.map,hD 5 (by decide),hD 9 (by decide),hD 10 (by decide)]<;>rfl);obtain⟨⟨⟨N1,e1,u1⟩,⟨N2,e2,u2⟩,⟨N3,e3,u3⟩⟩,g9⟩:=s;have je:Hid (St w wy [ah w.heap.size 28 #[.int .i64 os,.slice G gn gc,.slice G' n' c',.slice D' dn dc,.int .i64 st],ah (w.heap.size+1) 28 #[.int .i64 0,.slice none 0 0,.slice none 0 0,.slice none 0 0,.int .i64 0],ah g6 28 #[.int .i64 cs,.slice B1 m1 d1,.slice B2 m2 d2,.slice B3 m3 d3,.int .i64 ct],aI (.agg #[.int .i64 cs,.slice B1 m1 d1,.slice B2 m2 d2,.slice B3 m3 d3,.int .i64 ct]) bk,aI (.agg #[.int .i64 ns,.slice N1 e1 u1,.slice N2 e2 u2,.slice N3 e3 u3,.int .i64 nt]) nb,ah g9 28 #[.int .i64 ns,.slice N1 e1 u1,.slice N2 e2 u2,.slice N3 e3 u3,.int .i64 nt]]):=af uo;clear hR hD HS uo;have q7:=je.out.cells 2 rfl;have q8:=je.out.cells 5 rfl;have f7:=je.out.free 2 rfl
     cases did with
     |false=>
      have JJ:Bx (runK b aa (k+1)=(bk,cnt)):=Bx.mk (by rw[qW.out,NK.out rfl];rfl);have nJ:=af (je.out.pick [0,1,2,3] (by decide) rfl rfl);go_wp2
      go_roundw
      case rel=>exact⟨k+1,cnt,bk,cs,ct,B1,m1,d1,B2,m2,d2,B3,m3,d3,by omega,hcnt,by go_num,rfl,JJ,nJ.out⟩
      case measure=>simp[intOf];omega
     |true=>
      have JJ:Bx (runK b aa (k+1)=(nb,cnt+1)):=Bx.mk (by rw[qW.out];rfl)
      have hcnt2:cnt+1≤40:=by
       have:=(vT (b:=b) aa (k+1) bG.out).2.2
       rw[JJ.out,wB.out] at this;exact Nat.le_trans this kQ
      have ac0:(cnt:Int)+1≤40:=by omega
      have nJ:Hid (St w (((((wy.setCell ⟨g6,0,none⟩ (.int .i64 ns)).setCell ⟨g6,1,none⟩ (.slice N1 e1 u1)).setCell ⟨g6,2,none⟩ (.slice N2 e2 u2)).setCell ⟨g6,3,none⟩ (.slice N3 e3 u3)).setCell ⟨g6,4,none⟩ (.int .i64 nt)) [ah w.heap.size 28 #[.int .i64 os,.slice G gn gc,.slice G' n' c',.slice D' dn dc,.int .i64 st],ah (w.heap.size+1) 28 #[.int .i64 0,.slice none 0 0,.slice none 0 0,.slice none 0 0,.int .i64 0],ah g6 28 #[.int .i64 ns,.slice N1 e1 u1,.slice N2 e2 u2,.slice N3 e3 u3,.int .i64 nt],aI (.agg #[.int .i64 ns,.slice N1 e1 u1,.slice N2 e2 u2,.slice N3 e3 u3,.int .i64 nt]) nb]):=af ((je.out.fF 2 rfl (.int .i64 ns) (.slice N1 e1 u1) (.slice N2 e2 u2) (.slice N3 e3 u3) (.int .i64 nt)).pick [0,1,2,4] (by decide) rfl rfl);go_wp2
      go_roundw
      case rel=>exact⟨k+1,cnt+1,nb,ns,nt,N1,e1,u1,N2,e2,u2,N3,e3,u3,by omega,hcnt2,by go_num,by go_num,JJ,nJ.out⟩
      case measure=>simp[intOf];omega
   ·obtain rfl:k=n:=by omega
    have HE:Bx (nU b aa=(bk,cnt)):=Bx.mk (by rw[←TQ.out,Ld b aa (by rw[wB.out];exact aA _)]);go_wp2;have fP:=af (HS.out.fF 1 rfl (.int .i64 cs) (.slice B1 m1 d1) (.slice B2 m2 d2) (.slice B3 m3 d3) (.int .i64 ct));have q9:=fP.out.cells 1 rfl;refine bodyPost_ret (v:=.tuple #[.agg #[.int .i64 cs,.slice B1 m1 d1,.slice B2 m2 d2,.slice B3 m3 d3,.int .i64 ct],.int .i64 (cnt:Nat)]) (by simp[results,Tryz.results58,go_sem,q5,f5]) rfl ⟨.agg #[.int .i64 cs,.slice B1 m1 d1,.slice B2 m2 d2,.slice B3 m3 d3,.int .i64 ct],by rw[HY.out,HE.out],?_⟩;rw[HY.out,HE.out];exact fP.out.pick [3] (by decide) rfl rfl
section
variable {w W W' : World} {Rs L : List dh} {M : Nat → Option dh}
theorem Sn.pick (h:Sn w W M) (k:Nat) {g hi:Nat} (hk:M k=some (fG w g hi)) (hh:hi≤549755813888) (m:Int):
  Calls Tryz.prog 43 #[.pointer (some ⟨g,0,none⟩),.int .i64 m] W fun e w'=>∃x,e= .returned (.int .i64 x)∧Ji m x∧Sn w w' (fun i=>if i=k then some (fG w g (hi+1)) else M i):=by
 obtain⟨F,⟨hF,p,A,n,c,xs,h1,h2,h3,h4⟩,hlo⟩:=h.get k hk;have hg:w.heap.size≤g:=hlo g (by rw[hF];simp);have hR:XB W w.heap.size g p:=⟨hg,by omega,A,n,c,xs,h2,h3.below h.below,h4⟩;refine(pick_any g w.heap.size p m W hR (by omega)).mono fun e w' ⟨⟨x,he,hx⟩,hgr,hr⟩=>⟨x,he,hx,?_⟩
 obtain⟨-,-,A',n',c',ys,k1,k2,k3⟩:=hr;have hb:Below w.heap.size W w':=(ai _ _).grown hgr h.below.size (fun k hk=>by cases hk;exact hg)
 have hrd:jd .u8 w w.heap.size A' n' c' ys:=⟨k2.len,k2.cap,k2.dw,k2.wf,fun hp=>by
  obtain⟨b,off,e,hbb,hc⟩:=k2.at_ hp
  exact⟨b,off,e,hbb,fun i x hx=>(aF (h.below.trans hb) b _ hbb).symm.trans (hc i x hx)⟩⟩
 exact h.mod k hk fun F ⟨e,_⟩ _=>⟨F,⟨e,p+1,A',n',c',ys,by omega,k1,hrd,k3⟩,fun b hb=>.inl hb,by rw[e];exact Only.lJ hgr⟩
end
section
variable {w W W' : World} {Rs L : List dh} {M : Nat → Option dh}
theorem St.pack (h:St w W (Rs++L)):St w W (Rs++[NM L]):=by
 obtain⟨Fs,kl,ha,hn⟩:=h.has;have hl:Fs.length=Rs.length+L.length:=by rw[kl,bQ]
 have e:Fs=Fs.take Rs.length++Fs.drop Rs.length:=(List.take_append_drop ..).symm;have hn2:=hn;rw[e,List.flatten_append] at hn2;refine⟨h.below,Fs.take Rs.length++[(Fs.drop Rs.length).flatten],by simp;omega,fun i R F hR hF=>?_,by rw[List.flatten_append];simpa using hn2⟩
 rcases Nat.lt_or_ge i Rs.length with hi | hi
 ·rw[List.getElem?_append_left hi] at hR;rw[List.getElem?_append_left (by simp;omega),List.getElem?_take_of_lt hi] at hF;exact ha i R F (by rw[List.getElem?_append_left hi];exact hR) hF
 ·rw[List.getElem?_append_right hi] at hR;rw[List.getElem?_append_right (by simp;omega)] at hF
  have hi0:i=Rs.length:=by
   have:=(bI.1 hR).1
   simp at this;omega
  subst hi0;rw[Nat.sub_self] at hR;rw[show Rs.length-(Fs.take Rs.length).length=0 by simp;omega] at hF;simp only[List.getElem?_cons_zero,Option.some.injEq] at hR hF;subst hR hF
  have hat:∀(j:Nat) R G,L[j]? =some R→(Fs.drop Rs.length)[j]? =some G→R.at_ W G∧∀b∈G,w.heap.size≤b:=fun j R G hR hG=>by
   rw[List.getElem?_drop] at hG;exact ha (Rs.length+j) R G (by rw[List.getElem?_append_right (by omega),Nat.add_sub_cancel_left];exact hR) hG
  refine⟨⟨Fs.drop Rs.length,by simp;omega,fun j R G hR hG=>(hat j R G hR hG).1,(List.nodup_append.1 hn2).2.1,rfl⟩,fun b hb=>?_⟩;obtain⟨G,hG,hb⟩:=List.mem_flatten.1 hb;obtain⟨j,hj⟩:=List.mem_iff_getElem?.1 hG;have hjl:j<L.length:=by have:=(bI.1 hj).1;simp at this;omega
  exact(hat j _ G (bH hjl) hj).2 b hb
theorem St.unpack (h:St w W (Rs++[NM L])):St w W (Rs++L):=by
 obtain⟨Fs,kl,ha,hn⟩:=h.has;have hl:Fs.length=Rs.length+1:=by simpa using kl
 have hF:Fs[Rs.length]? =some (Fs[Rs.length]'(by omega)):=bH _
 generalize Fs[Rs.length]'(by omega)=F at hF
 obtain⟨⟨Gs,g1,g2,g3,g4⟩,h2⟩:=ha Rs.length (NM L) F (by simp) hF
 have e:Fs=Fs.take Rs.length++[F]:=by
  have h1:=(List.take_append_drop Rs.length Fs).symm
  have h3:Fs.drop Rs.length=[F]:=by
   obtain⟨hlt,he⟩:=bI.1 hF;rw[List.drop_eq_getElem_cons hlt,he,List.drop_of_length_le (by omega)]
  rw[h3] at h1;exact h1
 refine⟨h.below,Fs.take Rs.length++Gs,by simp;omega,fun i R G hR hG=>?_,?_⟩
 ·rcases Nat.lt_or_ge i Rs.length with hi | hi
  ·rw[List.getElem?_append_left hi] at hR;rw[List.getElem?_append_left (by simp;omega),List.getElem?_take_of_lt hi] at hG;exact ha i R G (by rw[List.getElem?_append_left hi];exact hR) hG
  ·rw[List.getElem?_append_right hi] at hR;rw[List.getElem?_append_right (by simp;omega),show(Fs.take Rs.length).length=Rs.length by simp;omega] at hG;exact⟨g2 _ R G hR hG,fun b hb=>h2 b (by rw[g4];exact oH hG hb)⟩
 ·rw[List.flatten_append];rw[e,List.flatten_append] at hn;rw[show [F].flatten=F by simp,g4] at hn;exact hn
end
end Go.Proofs.YtkmcengmglgdeaaGreatDoor
