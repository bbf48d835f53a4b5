/- A part of the proof: RunB. -/
import Derived.Test.YtkmcengmglgdeaaGreatDoorSDoS
namespace Go.Proofs.YtkmcengmglgdeaaGreatDoor
set_option linter.unusedVariables false
set_option linter.unusedSimpArgs false
set_option maxRecDepth 100000
set_option maxHeartbeats 8000000
open Go.ChangeShapes Go.WideShapes Go.ChangeAt Go.RowKit
theorem Eb {b:aI} {aa:List iC} (h:aP b=false∨¬aa.length≤40):gX b aa=(sK,0):=by
 unfold gX
 rw[if_neg]
 rcases h with h | h<;>simp[h]
theorem Ar {b:aI} {aa:List iC} (h:aP b=true) (h':aa.length≤40):gX b aa=oh b aa:=by
 unfold gX;rw[if_pos (by simp[h,h'])]
theorem Hl (v:Value) (b:aI) (A:Option Addr) (n c:Nat) (aa:List iC) (w:World) (h:RdB w w.heap.size v b) (ha:XJ w w.heap.size A n c aa) (hwf:∀a∈aa,(Lit.int .i64 a.number).wf=true):
  Calls Tryz.prog 39 #[v,.slice A n c] w (Gives w (fun v=>.tuple #[v,.int .i64 ((gX b aa).2:Nat)]) fun v=>[bF v (gX b aa).1]):=by
 obtain⟨G,gn,gc,G',n',c',D',dn,dc,hv⟩:=h.form;subst hv;obtain⟨hdn,hdl,hst,-⟩:=h.done;obtain⟨os,hos⟩:∃x,b.order.start=x:=⟨_,rfl⟩;obtain⟨st,jw⟩:∃x,b.state=x:=⟨_,rfl⟩;have lq:=af h;have HD:=af hdn;have fF:Hid (b.done.length=dn):=af hdn.len;have pR:=Bx.mk hos;have jX:=Bx.mk jw;have HA:=af ha;have uY:=af ha.1;have YQ:=af hwf;have acd:=ha.2.cap;have aak:=ha.2.bZ
 unfold maxLen at aak
 rw[hos,jw] at lq;rw[hos,jw]
 have S0:St w ((w.alloc (Obj.cells #[.int .i64 os,.slice G gn gc,.slice G' n' c',.slice D' dn dc,.int .i64 st] 28)).alloc (Obj.cells #[.int .i64 0,.slice none 0 0,.slice none 0 0,.slice none 0 0,.int .i64 0] 28)) [ah w.heap.size 28 #[.int .i64 os,.slice G gn gc,.slice G' n' c',.slice D' dn dc,.int .i64 st],ah (w.heap.size+1) 28 #[.int .i64 0,.slice none 0 0,.slice none 0 0,.slice none 0 0,.int .i64 0]]:=by
  have:=((St.refl w).alloc #[.int .i64 os,.slice G gn gc,.slice G' n' c',.slice D' dn dc,.int .i64 st] 28).alloc #[.int .i64 0,.slice none 0 0,.slice none 0 0,.slice none 0 0,.int .i64 0] 28
  simpa using this
 have aQ:=af S0;obtain⟨bo,hok⟩:∃x,aP b=x:=⟨_,rfl⟩;have bC:=Bx.mk hok;clear S0 hdn h hos jw hst hok ha hwf
 by_cases hcase:bo=false∨¬n≤40
 ·have HE:Bx (gX b aa=(sK,0)):=Bx.mk (Eb (by rcases hcase with h | h;exact .inl (bC.out.trans h);exact .inr (by rw[uY.out];exact h)));go_enter Tryz.func39,Tryz.ntmps39
  go_wp2_with fail
  refine(cu _ b _ (lq.out.up aQ.out.below)).mono ?_;rw[bC.out];rintro e w1 ⟨rfl,hb1⟩;have bG:=af (aQ.out.quiet hb1);have q1:=bG.out.cells 1 rfl;have f1:=bG.out.free 1 rfl;clear hb1
  cases bo with
  |false=>
   go_wp2;refine bodyPost_ret (v:=.tuple #[.agg #[.int .i64 0,.slice none 0 0,.slice none 0 0,.slice none 0 0,.int .i64 0],.int .i64 0]) (by simp[results,Tryz.results39,go_sem,q1]) rfl ⟨.agg #[.int .i64 0,.slice none 0 0,.slice none 0 0,.slice none 0 0,.int .i64 0],by rw[HE.out];rfl,?_⟩;rw[HE.out];exact St.book0 (bG.out.fH 1 rfl _ _ _ _ _).below
  |true=>
   have tu:(40:Int)<(n:Int):=by rcases hcase with h | h;cases h;omega
   clear hcase;go_wp2;refine bodyPost_ret (v:=.tuple #[.agg #[.int .i64 0,.slice none 0 0,.slice none 0 0,.slice none 0 0,.int .i64 0],.int .i64 0]) (by simp[results,Tryz.results39,go_sem,q1]) rfl ⟨.agg #[.int .i64 0,.slice none 0 0,.slice none 0 0,.slice none 0 0,.int .i64 0],by rw[HE.out];rfl,?_⟩;rw[HE.out];exact St.book0 (bG.out.fH 1 rfl _ _ _ _ _).below
 ·have OW:bo=true:=by cases bo<;>simp_all
  subst OW;have kY:n≤40:=by omega
  have Tj:¬(40:Int)<(n:Int):=by omega
  have HY:Bx (gX b aa=oh b aa):=Bx.mk (Ar bC.out (by rw[uY.out];exact kY));have sZ:=Bx.mk (bH bC.out).1;have yS:dn≤40:=by rw[←fF.out];exact(bH bC.out).2.1
  clear hcase;go_enter Tryz.func39,Tryz.ntmps39
  go_wp2_with fail
  refine(cu _ b _ (lq.out.up aQ.out.below)).mono ?_;rw[bC.out];rintro e w1 ⟨rfl,hb1⟩;have bG:=af (aQ.out.quiet hb1);have q1:=bG.out.cells 0 rfl;clear hb1 aQ
  go_wp2_with fail
  refine(nX _ b _ (lq.out.up bG.out.below)).mono ?_;rintro e w2 ⟨v2,rfl,s2⟩;obtain⟨A1,n1,c1,A2,n2,c2,A3,n3,c3,hv⟩:=s2.gW 0 rfl;rw[pR.out,jX.out] at hv;simp only[id_eq] at hv ⊢
  subst hv;obtain⟨g6,yR⟩:∃g,w2.heap.size=g:=⟨_,rfl⟩;have HS2:Hid (St w (w2.alloc (.cells #[.int .i64 os,.slice A1 n1 c1,.slice A2 n2 c2,.slice A3 n3 c3,.int .i64 st] 28)) [ah w.heap.size 28 #[.int .i64 os,.slice G gn gc,.slice G' n' c',.slice D' dn dc,.int .i64 st],ah (w.heap.size+1) 28 #[.int .i64 0,.slice none 0 0,.slice none 0 0,.slice none 0 0,.int .i64 0],ah g6 28 #[.int .i64 os,.slice A1 n1 c1,.slice A2 n2 c2,.slice A3 n3 c3,.int .i64 st],bF (.agg #[.int .i64 os,.slice A1 n1 c1,.slice A2 n2 c2,.slice A3 n3 c3,.int .i64 st]) b]):=af (by rw[←yR];exact((bG.out.call s2).alloc _ _).pick [0,1,3,2] (by decide) rfl rfl);clear s2 bG q1
  try rw[yR]
  go_wp2
  go_loopw [25,7] (fun i cv wr=>∃(k cnt:Nat) (bk:aI) (cs ct:Int) (B1:Option Addr) (m1 d1:Nat) (B2:Option Addr) (m2 d2:Nat) (B3:Option Addr) (m3 d3:Nat),k≤n∧cnt≤40∧i= .int .i64 k∧cv= .int .i64 cnt∧Bx (runK b aa k=(bk,cnt))∧St w wr [ah w.heap.size 28 #[.int .i64 os,.slice G gn gc,.slice G' n' c',.slice D' dn dc,.int .i64 st],ah (w.heap.size+1) 28 #[.int .i64 0,.slice none 0 0,.slice none 0 0,.slice none 0 0,.int .i64 0],ah g6 28 #[.int .i64 cs,.slice B1 m1 d1,.slice B2 m2 d2,.slice B3 m3 d3,.int .i64 ct],bF (.agg #[.int .i64 cs,.slice B1 m1 d1,.slice B2 m2 d2,.slice B3 m3 d3,.int .i64 ct]) bk]) (fun i _ _=>n-(intOf i).toNat)
  case atStart=>exact⟨0,0,b,os,st,_,_,_,_,_,_,_,_,_,by omega,by omega,rfl,rfl,Bx.mk (FM b aa),by have h:=HS2.out;first | exact h | (rw[←yR] at h ⊢;exact h)⟩
  case round=>
   clear HS2;obtain⟨k,cnt,bk,cs,ct,B1,m1,d1,B2,m2,d2,B3,m3,d3,hk,hcnt,rfl,rfl,Qb,S⟩:=hrel;have HS:=af S;have q6:=S.cells 2 rfl;have q5:=S.cells 1 rfl;have f6:=S.free 2 rfl;have f5:=S.free 1 rfl;clear S;have HKO:=Bx.mk (vz (b:=b) aa k bC.out);rw[Qb.out] at HKO
   by_cases hlt:k<n
   ·obtain⟨ab,jb,a,rfl,hab,hat,ha0,ha1⟩:=HA.out.get hlt;obtain⟨ak,am⟩:=a;have HAB:=af hab;have YG:=af ha0;have HC1:=af ha1;have HAW:=af (YQ.out _ (bU hat));have Jl:Hid ((k:Int)<(n:Int)):=af (by omega);have qw:=Bx.mk (FN (b:=b) hat);rw[Qb.out] at qw;have aal:=Bx.mk (vz (b:=b) aa (k+1) bC.out)
    simp only at HAW YG HC1
    obtain⟨nb,hnb⟩:∃x,jl bk ⟨ak,am⟩=x:=⟨_,rfl⟩;obtain⟨did,yU⟩:∃x,fU bk ⟨ak,am⟩=x:=⟨_,rfl⟩;obtain⟨ns,hns⟩:∃x,nb.order.start=x:=⟨_,rfl⟩;obtain⟨nt,hnt⟩:∃x,nb.state=x:=⟨_,rfl⟩;have Tn:=Bx.mk hnb;have BK:=Bx.mk yU;have VZ:=Bx.mk hns;have V3:=Bx.mk hnt;have UU:=uY
    have hnn:fU bk ⟨ak,am⟩=false→nb=bk:=fun h=>by
     rw[←hnb];have hbk:=HKO.out.1
     cases hd:aY bk ⟨ak,am⟩ with
     |none=>exact(fA hbk hd).1
     |some d=>rw[(jD hbk hd).2] at h;cases h
    rw[Tn.out,BK.out] at qw;rw[qw.out] at aal;have MC:=Bx.mk hnn;rw[BK.out] at MC;clear hnb yU hns hnt hnn hab hat ha0 ha1;have r0:wr.cell? ⟨ab,jb+k*2,none⟩=some (.int .i64 ak):=(aC HS.out.below ab _ HAB.out).trans YG.out;have r1:wr.cell? ⟨ab,jb+k*2+1,none⟩=some (.int .i64 am):=(aC HS.out.below ab _ HAB.out).trans HC1.out;have dV:=af ((HS.out.alloc #[.int .i64 ak,.int .i64 am] 64).pick [0,1,2,3] (by decide) rfl rfl);have q3:=dV.out.cells 2 rfl;have hki:=Jl.out;clear HS f5 f6 q5
    go_wp2_with fail
    refine(zO _ bk ak am _ (dV.out.G7 3 rfl) HAW.out).mono ?_;rw[Tn.out,BK.out];rintro e w4 ⟨v4,rfl,s4⟩;obtain⟨N1,e1,u1,N2,e2,u2,N3,e3,u3,hv⟩:=s4.gW 0 rfl;rw[VZ.out,V3.out] at hv;subst hv;obtain⟨g9,XH⟩:∃g,w4.heap.size=g:=⟨_,rfl⟩;have kX:Hid (St w (w4.alloc (.cells #[.int .i64 ns,.slice N1 e1 u1,.slice N2 e2 u2,.slice N3 e3 u3,.int .i64 nt] 28)) [ah w.heap.size 28 #[.int .i64 os,.slice G gn gc,.slice G' n' c',.slice D' dn dc,.int .i64 st],ah (w.heap.size+1) 28 #[.int .i64 0,.slice none 0 0,.slice none 0 0,.slice none 0 0,.int .i64 0],ah g6 28 #[.int .i64 cs,.slice B1 m1 d1,.slice B2 m2 d2,.slice B3 m3 d3,.int .i64 ct],bF (.agg #[.int .i64 cs,.slice B1 m1 d1,.slice B2 m2 d2,.slice B3 m3 d3,.int .i64 ct]) bk,bF (.agg #[.int .i64 ns,.slice N1 e1 u1,.slice N2 e2 u2,.slice N3 e3 u3,.int .i64 nt]) nb,ah g9 28 #[.int .i64 ns,.slice N1 e1 u1,.slice N2 e2 u2,.slice N3 e3 u3,.int .i64 nt]]):=af (by rw[←XH];exact(dV.out.call s4).alloc _ _);clear s4 dV r0 r1 q6 q3
    try rw[XH]
    have q7:=kX.out.cells 2 rfl;have q8:=kX.out.cells 5 rfl;have f7:=kX.out.free 2 rfl
    cases did with
    |false=>
     have Jb:Bx (runK b aa (k+1)=(bk,cnt)):=Bx.mk (by rw[qw.out,MC.out rfl];rfl);have uZ:=af (kX.out.pick [0,1,2,3] (by decide) rfl rfl);go_wp2
     go_roundw
     case rel=>exact⟨k+1,cnt,bk,cs,ct,B1,m1,d1,B2,m2,d2,B3,m3,d3,by omega,hcnt,by go_num,rfl,Jb,uZ.out⟩
     case measure=>simp[intOf];omega
    |true=>
     have Jb:Bx (runK b aa (k+1)=(nb,cnt+1)):=Bx.mk (by rw[qw.out];rfl)
     have hcnt2:cnt+1≤40:=by
      have:=(vz (b:=b) aa (k+1) bC.out).2.2
      rw[Jb.out,uY.out] at this;exact Nat.le_trans this kY
     have ace:(cnt:Int)+1≤40:=by omega
     have uZ:Hid (St w ((((((w4.alloc (.cells #[.int .i64 ns,.slice N1 e1 u1,.slice N2 e2 u2,.slice N3 e3 u3,.int .i64 nt] 28)).setCell ⟨g6,0,none⟩ (.int .i64 ns)).setCell ⟨g6,1,none⟩ (.slice N1 e1 u1)).setCell ⟨g6,2,none⟩ (.slice N2 e2 u2)).setCell ⟨g6,3,none⟩ (.slice N3 e3 u3)).setCell ⟨g6,4,none⟩ (.int .i64 nt)) [ah w.heap.size 28 #[.int .i64 os,.slice G gn gc,.slice G' n' c',.slice D' dn dc,.int .i64 st],ah (w.heap.size+1) 28 #[.int .i64 0,.slice none 0 0,.slice none 0 0,.slice none 0 0,.int .i64 0],ah g6 28 #[.int .i64 ns,.slice N1 e1 u1,.slice N2 e2 u2,.slice N3 e3 u3,.int .i64 nt],bF (.agg #[.int .i64 ns,.slice N1 e1 u1,.slice N2 e2 u2,.slice N3 e3 u3,.int .i64 nt]) nb]):=af ((kX.out.fH 2 rfl (.int .i64 ns) (.slice N1 e1 u1) (.slice N2 e2 u2) (.slice N3 e3 u3) (.int .i64 nt)).pick [0,1,2,4] (by decide) rfl rfl);go_wp2
     go_roundw
     case rel=>exact⟨k+1,cnt+1,nb,ns,nt,N1,e1,u1,N2,e2,u2,N3,e3,u3,by omega,hcnt2,by go_num,by go_num,Jb,uZ.out⟩
     case measure=>simp[intOf];omega
   ·obtain rfl:k=n:=by omega
    have HE:Bx (oh b aa=(bk,cnt)):=Bx.mk (by rw[←Qb.out,J4 b aa (by rw[uY.out];exact ay _)]);go_wp2;have gy:=af (HS.out.fH 1 rfl (.int .i64 cs) (.slice B1 m1 d1) (.slice B2 m2 d2) (.slice B3 m3 d3) (.int .i64 ct));have q9:=gy.out.cells 1 rfl;refine bodyPost_ret (v:=.tuple #[.agg #[.int .i64 cs,.slice B1 m1 d1,.slice B2 m2 d2,.slice B3 m3 d3,.int .i64 ct],.int .i64 (cnt:Nat)]) (by simp[results,Tryz.results39,go_sem,q5,f5]) rfl ⟨.agg #[.int .i64 cs,.slice B1 m1 d1,.slice B2 m2 d2,.slice B3 m3 d3,.int .i64 ct],by rw[HY.out,HE.out],?_⟩;rw[HY.out,HE.out];exact gy.out.pick [3] (by decide) rfl rfl
theorem Jc (v:Value) (b:aI) (A:Option Addr) (n c:Nat) (aa:List iC) (w:World) (h:RdB w w.heap.size v b) (ha:XJ w w.heap.size A n c aa) (hwf:∀a∈aa,(Lit.int .i64 a.number).wf=true):
  Calls Tryz.prog 58 #[v,.slice A n c] w (Gives w (fun v=>.tuple #[v,.int .i64 ((gX b aa).2:Nat)]) fun v=>[bF v (gX b aa).1]):=by
 obtain⟨G,gn,gc,G',n',c',D',dn,dc,hv⟩:=h.form;subst hv;obtain⟨hdn,hdl,hst,-⟩:=h.done;obtain⟨os,hos⟩:∃x,b.order.start=x:=⟨_,rfl⟩;obtain⟨st,jw⟩:∃x,b.state=x:=⟨_,rfl⟩;have lq:=af h;have HD:=af hdn;have fF:Hid (b.done.length=dn):=af hdn.len;have pR:=Bx.mk hos;have jX:=Bx.mk jw;have HA:=af ha;have uY:=af ha.1;have YQ:=af hwf;have acd:=ha.2.cap;have aak:=ha.2.bZ
 unfold maxLen at aak
 rw[hos,jw] at lq;rw[hos,jw]
 have S0:St w ((w.alloc (Obj.cells #[.int .i64 os,.slice G gn gc,.slice G' n' c',.slice D' dn dc,.int .i64 st] 28)).alloc (Obj.cells #[.int .i64 0,.slice none 0 0,.slice none 0 0,.slice none 0 0,.int .i64 0] 28)) [ah w.heap.size 28 #[.int .i64 os,.slice G gn gc,.slice G' n' c',.slice D' dn dc,.int .i64 st],ah (w.heap.size+1) 28 #[.int .i64 0,.slice none 0 0,.slice none 0 0,.slice none 0 0,.int .i64 0]]:=by
  have:=((St.refl w).alloc #[.int .i64 os,.slice G gn gc,.slice G' n' c',.slice D' dn dc,.int .i64 st] 28).alloc #[.int .i64 0,.slice none 0 0,.slice none 0 0,.slice none 0 0,.int .i64 0] 28
  simpa using this
 have aQ:=af S0;obtain⟨bo,hok⟩:∃x,aP b=x:=⟨_,rfl⟩;have bC:=Bx.mk hok;clear S0 hdn h hos jw hst hok ha hwf
 by_cases hcase:bo=false∨¬n≤40
 ·have HE:Bx (gX b aa=(sK,0)):=Bx.mk (Eb (by rcases hcase with h | h;exact .inl (bC.out.trans h);exact .inr (by rw[uY.out];exact h)));go_enter Tryz.func58,Tryz.ntmps58
  go_wp2_with fail
  refine(dM _ b _ (lq.out.up aQ.out.below)).mono ?_;rw[bC.out];rintro e w1 ⟨rfl,hb1⟩;have bG:=af (aQ.out.quiet hb1);have q1:=bG.out.cells 1 rfl;have f1:=bG.out.free 1 rfl;clear hb1
  cases bo with
  |false=>
   go_wp2;refine bodyPost_ret (v:=.tuple #[.agg #[.int .i64 0,.slice none 0 0,.slice none 0 0,.slice none 0 0,.int .i64 0],.int .i64 0]) (by simp[results,Tryz.results58,go_sem,q1]) rfl ⟨.agg #[.int .i64 0,.slice none 0 0,.slice none 0 0,.slice none 0 0,.int .i64 0],by rw[HE.out];rfl,?_⟩;rw[HE.out];exact St.book0 (bG.out.fH 1 rfl _ _ _ _ _).below
  |true=>
   have tu:(40:Int)<(n:Int):=by rcases hcase with h | h;cases h;omega
   clear hcase;go_wp2;refine bodyPost_ret (v:=.tuple #[.agg #[.int .i64 0,.slice none 0 0,.slice none 0 0,.slice none 0 0,.int .i64 0],.int .i64 0]) (by simp[results,Tryz.results58,go_sem,q1]) rfl ⟨.agg #[.int .i64 0,.slice none 0 0,.slice none 0 0,.slice none 0 0,.int .i64 0],by rw[HE.out];rfl,?_⟩;rw[HE.out];exact St.book0 (bG.out.fH 1 rfl _ _ _ _ _).below
 ·have OW:bo=true:=by cases bo<;>simp_all
  subst OW;have kY:n≤40:=by omega
  have Tj:¬(40:Int)<(n:Int):=by omega
  have HY:Bx (gX b aa=oh b aa):=Bx.mk (Ar bC.out (by rw[uY.out];exact kY));have sZ:=Bx.mk (bH bC.out).1;have yS:dn≤40:=by rw[←fF.out];exact(bH bC.out).2.1
  clear hcase;go_enter Tryz.func58,Tryz.ntmps58
  go_wp2_with fail
  refine(dM _ b _ (lq.out.up aQ.out.below)).mono ?_;rw[bC.out];rintro e w1 ⟨rfl,hb1⟩;have bG:=af (aQ.out.quiet hb1);have q1:=bG.out.cells 0 rfl;clear hb1 aQ
  go_wp2_with fail
  refine(dR _ b D' dn dc b.done _ (lq.out.up bG.out.below) sZ.out (HD.out.up bG.out.below) (by omega)).mono ?_;rw[eu bC.out];rintro e w2 ⟨v2,rfl,s2⟩;obtain⟨A1,n1,c1,A2,n2,c2,A3,n3,c3,hv⟩:=s2.gW 0 rfl;rw[pR.out,jX.out] at hv;simp only[id_eq] at hv ⊢
  subst hv;obtain⟨g6,yR⟩:∃g,w2.heap.size=g:=⟨_,rfl⟩;have HS2:Hid (St w (w2.alloc (.cells #[.int .i64 os,.slice A1 n1 c1,.slice A2 n2 c2,.slice A3 n3 c3,.int .i64 st] 28)) [ah w.heap.size 28 #[.int .i64 os,.slice G gn gc,.slice G' n' c',.slice D' dn dc,.int .i64 st],ah (w.heap.size+1) 28 #[.int .i64 0,.slice none 0 0,.slice none 0 0,.slice none 0 0,.int .i64 0],ah g6 28 #[.int .i64 os,.slice A1 n1 c1,.slice A2 n2 c2,.slice A3 n3 c3,.int .i64 st],bF (.agg #[.int .i64 os,.slice A1 n1 c1,.slice A2 n2 c2,.slice A3 n3 c3,.int .i64 st]) b]):=af (by rw[←yR];exact((bG.out.call s2).alloc _ _).pick [0,1,3,2] (by decide) rfl rfl);clear s2 bG q1
  try rw[yR]
  go_wp2
  go_loopw [8,7] (fun i cv wr=>∃(k cnt:Nat) (bk:aI) (cs ct:Int) (B1:Option Addr) (m1 d1:Nat) (B2:Option Addr) (m2 d2:Nat) (B3:Option Addr) (m3 d3:Nat),k≤n∧cnt≤40∧i= .int .i64 k∧cv= .int .i64 cnt∧Bx (runK b aa k=(bk,cnt))∧St w wr [ah w.heap.size 28 #[.int .i64 os,.slice G gn gc,.slice G' n' c',.slice D' dn dc,.int .i64 st],ah (w.heap.size+1) 28 #[.int .i64 0,.slice none 0 0,.slice none 0 0,.slice none 0 0,.int .i64 0],ah g6 28 #[.int .i64 cs,.slice B1 m1 d1,.slice B2 m2 d2,.slice B3 m3 d3,.int .i64 ct],bF (.agg #[.int .i64 cs,.slice B1 m1 d1,.slice B2 m2 d2,.slice B3 m3 d3,.int .i64 ct]) bk]) (fun i _ _=>n-(intOf i).toNat)
  case atStart=>exact⟨0,0,b,os,st,_,_,_,_,_,_,_,_,_,by omega,by omega,rfl,rfl,Bx.mk (FM b aa),by have h:=HS2.out;first | exact h | (rw[←yR] at h ⊢;exact h)⟩
  case round=>
   clear HS2;obtain⟨k,cnt,bk,cs,ct,B1,m1,d1,B2,m2,d2,B3,m3,d3,hk,hcnt,rfl,rfl,Qb,S⟩:=hrel;have HS:=af S;have q6:=S.cells 2 rfl;have q5:=S.cells 1 rfl;have f6:=S.free 2 rfl;have f5:=S.free 1 rfl;clear S;have HKO:=Bx.mk (vz (b:=b) aa k bC.out);rw[Qb.out] at HKO
   by_cases hlt:k<n
   ·obtain⟨ab,jb,a,rfl,hab,hat,ha0,ha1⟩:=HA.out.get hlt;obtain⟨ak,am⟩:=a;have HAB:=af hab;have YG:=af ha0;have HC1:=af ha1;have HAW:=af (YQ.out _ (bU hat));have Jl:Hid ((k:Int)<(n:Int)):=af (by omega);have qw:=Bx.mk (FN (b:=b) hat);rw[Qb.out] at qw;have aal:=Bx.mk (vz (b:=b) aa (k+1) bC.out)
    simp only at HAW YG HC1
    obtain⟨nb,hnb⟩:∃x,jl bk ⟨ak,am⟩=x:=⟨_,rfl⟩;obtain⟨did,yU⟩:∃x,fU bk ⟨ak,am⟩=x:=⟨_,rfl⟩;obtain⟨ns,hns⟩:∃x,nb.order.start=x:=⟨_,rfl⟩;obtain⟨nt,hnt⟩:∃x,nb.state=x:=⟨_,rfl⟩;have Tn:=Bx.mk hnb;have BK:=Bx.mk yU;have VZ:=Bx.mk hns;have V3:=Bx.mk hnt;have UU:=uY
    have hnn:fU bk ⟨ak,am⟩=false→nb=bk:=fun h=>by
     rw[←hnb];have hbk:=HKO.out.1
     cases hd:aY bk ⟨ak,am⟩ with
     |none=>exact(fA hbk hd).1
     |some d=>rw[(jD hbk hd).2] at h;cases h
    rw[Tn.out,BK.out] at qw;rw[qw.out] at aal;have MC:=Bx.mk hnn;rw[BK.out] at MC;clear hnb yU hns hnt hnn hab hat ha0 ha1;have hki:=Jl.out
    go_upto_region 8 with(fail)
    clear q5 q6 f5 f6
    refine kS (σ:=((Option Addr×Nat×Nat)×(Option Addr×Nat×Nat)×(Option Addr×Nat×Nat))×Nat)
     (fun s i=>match i with
      |0=>.agg #[.int .i64 cs,.slice B1 m1 d1,.slice B2 m2 d2,.slice B3 m3 d3,.int .i64 ct]
      |1=>.slice (some ⟨ab,jb,none⟩) n c
      |2=>.int .i64 (k:Int)
      |3=>.pointer (some ⟨ab,(jb+k*2),none⟩)
      |4=>.agg #[.int .i64 ak,.int .i64 am]
      |5=>.tuple #[.agg #[.int .i64 ns,.slice s.1.1.1 s.1.1.2.1 s.1.1.2.2,.slice s.1.2.1.1 s.1.2.1.2.1 s.1.2.1.2.2,.slice s.1.2.2.1 s.1.2.2.2.1 s.1.2.2.2.2,.int .i64 nt],.bool did]
      |6=>.tuple #[.agg #[.int .i64 ns,.slice s.1.1.1 s.1.1.2.1 s.1.1.2.2,.slice s.1.2.1.1 s.1.2.1.2.1 s.1.2.1.2.2,.slice s.1.2.2.1 s.1.2.2.2.1 s.1.2.2.2.2,.int .i64 nt],.bool did]
      |7=>.agg #[.int .i64 ns,.slice s.1.1.1 s.1.1.2.1 s.1.1.2.2,.slice s.1.2.1.1 s.1.2.1.2.1 s.1.2.1.2.2,.slice s.1.2.2.1 s.1.2.2.2.1 s.1.2.2.2.2,.int .i64 nt]
      |8=>.bool did
      |9=>.pointer (some ⟨s.2,0,none⟩)
      |11=>.bool did
      |_=>undef)
     (fun D s wy=>Sn w wy fun i=>match i with
      |0=>some (ah w.heap.size 28 #[.int .i64 os,.slice G gn gc,.slice G' n' c',.slice D' dn dc,.int .i64 st])
      |1=>some (ah (w.heap.size+1) 28 #[.int .i64 0,.slice none 0 0,.slice none 0 0,.slice none 0 0,.int .i64 0])
      |2=>some (ah g6 28 #[.int .i64 cs,.slice B1 m1 d1,.slice B2 m2 d2,.slice B3 m3 d3,.int .i64 ct])
      |3=>some (bF (.agg #[.int .i64 cs,.slice B1 m1 d1,.slice B2 m2 d2,.slice B3 m3 d3,.int .i64 ct]) bk)
      |4=>if D 5=true then some (bF (.agg #[.int .i64 ns,.slice s.1.1.1 s.1.1.2.1 s.1.1.2.2,.slice s.1.2.1.1 s.1.2.1.2.1 s.1.2.1.2.2,.slice s.1.2.2.1 s.1.2.2.2.1 s.1.2.2.2.2,.int .i64 nt]) nb) else none
      |5=>if D 9=true then some (ah s.2 28 (if D 10=true then #[.int .i64 ns,.slice s.1.1.1 s.1.1.2.1 s.1.1.2.2,.slice s.1.2.1.1 s.1.2.1.2.1 s.1.2.1.2.2,.slice s.1.2.2.1 s.1.2.2.2.1 s.1.2.2.2.2,.int .i64 nt] else #[.int .i64 0,.slice none 0 0,.slice none 0 0,.slice none 0 0,.int .i64 0])) else none
      |_=>none)
     (((none,0,0),(none,0,0),(none,0,0)),0) ?_ ?_ ?_
    ·intro D hD;refine((Sn.eY HS.out).quiet ((ai _ _).drew)).congr fun i=>?_
     match i with
     |0 | 1 | 2 | 3=>rfl
     |4=>simp only[hD 5 (by decide)];rfl
     |5=>simp only[hD 9 (by decide)];rfl
     |q+6=>rfl
    ·refine Cs (fun D s wy hR _ hd _ _ hs K hK=>?_) ?_
     ·have e6:=hs.o 6 (.pointer (some ⟨g6,0,none⟩));clear hs;have qk:=(hR.blk 2 rfl).cell;go_simp;exact hK s wy sv hR
     refine Cs (fun D s wy hR _ hd _ _ hs K hK=>?_) ?_
     ·have e1:=hs.o 1 (.slice (some ⟨ab,jb,none⟩) n c);clear hs;go_simp;exact hK s wy sv hR
     refine Cs (fun D s wy hR _ hd _ _ hs K hK=>?_) ?_
     ·have e8:=hs.o 8 (.int .i64 (k:Int));clear hs;go_simp;exact hK s wy sv hR
     refine Cs (fun D s wy hR _ hd _ _ hs K hK=>?_) ?_
     ·have e32:=hs.v 1 32 hd;have e33:=hs.v 2 33 hd;clear hs;have hki:=Jl.out;go_simp;exact hK s wy sv hR
     refine Cs (fun D s wy hR _ hd _ _ hs K hK=>?_) ?_
     ·have e34:=hs.v 3 34 hd;clear hs;have c0:wy.cell? ⟨ab,jb+k*2,none⟩=some (.int .i64 ak):=(aC hR.below ab _ HAB.out).trans YG.out;have c1:wy.cell? ⟨ab,jb+k*2+1,none⟩=some (.int .i64 am):=(aC hR.below ab _ HAB.out).trans HC1.out;go_simp;exact hK s wy sv hR
     refine Cs (fun D s wy hR (hDi:D 5=false) hd hsh _ hs K hK=>?_) ?_
     ·have e31:=hs.v 0 31 hd;have e35:=hs.v 4 35 hd;have g31:=aZ e31;have g35:=aZ e35;clear hs;have n6:D 6=false:=hsh.no hDi 6 rfl ⟨5,.data⟩ (by simp) rfl rfl;have n7:D 7=false:=hsh.no n6 7 rfl ⟨6,.data⟩ (by simp) rfl rfl;have n8:D 8=false:=hsh.no n6 8 rfl ⟨6,.data⟩ (by simp) rfl rfl;have n10:D 10=false:=hsh.no n7 10 rfl ⟨7,.data⟩ (by simp) rfl rfl;have n11:D 11=false:=hsh.no n8 11 rfl ⟨8,.data⟩ (by simp) rfl rfl;go_simp;refine(Au _ bk ak am _ (hR.G7 3 rfl) HAW.out).mono ?_;rw[Tn.out,BK.out];rintro e2 w2 ⟨v2,rfl,s2⟩;obtain⟨A1,n1,c1,A2,n2,c2,A3,n3,c3,hv⟩:=s2.gW 0 rfl;rw[VZ.out,V3.out] at hv;subst hv
      refine hK (((A1,n1,c1),(A2,n2,c2),(A3,n3,c3)),s.2) w2
       (fun j hj=>by
        match j,hj with
        |0,hj | 1,hj | 2,hj | 3,hj | 4,hj=>rfl
        |5,hj=>rw[hDi] at hj;cases hj
        |6,hj=>rw[n6] at hj;cases hj
        |7,hj=>rw[n7] at hj;cases hj
        |8,hj=>rw[n8] at hj;cases hj
        |9,hj=>rfl
        |10,hj=>rw[n10] at hj;cases hj
        |11,hj=>rw[n11] at hj;cases hj
        |_+12,hj=>rfl)
       ((hR.add 4 (if_neg (by rw[hDi];simp)) s2).congr
        (fun i=>by
         match i with
         |0 | 1 | 2 | 3 | 4=>rfl
         |5=>(show(if D 9=true then some (ah _ _ (if D 10=true then _ else _)) else none)=(if D 9=true then some (ah _ _ (if D 10=true then _ else _)) else none);rw[n10]<;>rfl)
         |q+6=>exact(if_neg (show¬(q+6=4) by omega)).symm))
     refine Cs (fun D s wy hR _ hd _ _ hs K hK=>?_) ?_
     ·have e36:=hs.v 5 36 hd;clear hs;go_simp;exact hK s wy sv hR
     refine Cs (fun D s wy hR _ hd _ _ hs K hK=>?_) ?_
     ·have e30:=hs.v 6 30 hd;clear hs;go_simp;exact hK s wy sv hR
     refine Cs (fun D s wy hR _ hd _ _ hs K hK=>?_) ?_
     ·have e30:=hs.v 6 30 hd;clear hs;go_simp;exact hK s wy sv hR
     refine Cs (fun D s wy hR (hDi:D 9=false) hd hsh _ hs K hK=>?_) ?_
     ·clear hs;have n10:D 10=false:=hsh.no hDi 10 rfl ⟨9,.data⟩ (by simp) rfl rfl;go_simp
      refine hK (s.1,wy.heap.size) _
       (fun j hj=>by
        match j,hj with
        |0,hj | 1,hj | 2,hj | 3,hj | 4,hj | 5,hj | 6,hj | 7,hj | 8,hj=>rfl
        |9,hj=>rw[hDi] at hj;cases hj
        |10,hj | 11,hj=>rfl
        |_+12,hj=>rfl)
       ((hR.add 5 (if_neg (by rw[hDi];simp)) (St.new1 wy #[.int .i64 0,.slice none 0 0,.slice none 0 0,.slice none 0 0,.int .i64 0] 28)).congr
        (fun i=>by
         match i with
         |0 | 1 | 2 | 3 | 4=>rfl
         |5=>(show some (ah _ _ (if D 10=true then _ else _))=some (ah _ _ _);rw[n10]<;>rfl)
         |q+6=>exact(if_neg (show¬(q+6=5) by omega)).symm))
     refine Cs (fun D s wy hR (hDi:D 10=false) hd _ _ hs K hK=>?_) ?_
     ·have e9:=hs.v 9 9 hd;have e37:=hs.v 7 37 hd;clear hs;have d9:D 9=true:=hd ⟨9,.data⟩ (by simp) rfl;have kb:iJ wy s.2 28 #[.int .i64 0,.slice none 0 0,.slice none 0 0,.slice none 0 0,.int .i64 0]:=hR.blk 5 (by simp only[d9,hDi]<;>rfl);have f0:=kb.frozen;have qk:=kb.cell;go_simp
      exact hK s _ sv ((hR.fH 5 (by simp only[d9,hDi];rfl) _ _ _ _ _).congr
       (fun i=>by
        match i with
        |0 | 1 | 2 | 3 | 4=>rfl
        |5=>(show(if D 9=true then some (ah _ _ _) else none)=some (ah _ _ _);rw[d9];rfl)
        |q+6=>exact(if_neg (show¬(q+6=5) by omega)).symm))
     refine Cs (fun D s wy hR _ hd _ _ hs K hK=>?_) ?_
     ·have e38:=hs.v 8 38 hd;clear hs;go_simp;exact hK s wy sv hR
     exact au.nil
    ·intro D s wy hR hD;simp only[eG,Act.put,aO,aS,aV];have Fb:=hR.fO [0,1,2,3,4,5] (L:=[ah w.heap.size 28 #[.int .i64 os,.slice G gn gc,.slice G' n' c',.slice D' dn dc,.int .i64 st],ah (w.heap.size+1) 28 #[.int .i64 0,.slice none 0 0,.slice none 0 0,.slice none 0 0,.int .i64 0],ah g6 28 #[.int .i64 cs,.slice B1 m1 d1,.slice B2 m2 d2,.slice B3 m3 d3,.int .i64 ct],bF (.agg #[.int .i64 cs,.slice B1 m1 d1,.slice B2 m2 d2,.slice B3 m3 d3,.int .i64 ct]) bk,bF (.agg #[.int .i64 ns,.slice s.1.1.1 s.1.1.2.1 s.1.1.2.2,.slice s.1.2.1.1 s.1.2.1.2.1 s.1.2.1.2.2,.slice s.1.2.2.1 s.1.2.2.2.1 s.1.2.2.2.2,.int .i64 nt]) nb,ah s.2 28 #[.int .i64 ns,.slice s.1.1.1 s.1.1.2.1 s.1.1.2.2,.slice s.1.2.1.1 s.1.2.1.2.1 s.1.2.1.2.2,.slice s.1.2.2.1 s.1.2.2.2.1 s.1.2.2.2.2,.int .i64 nt]]) (by decide) (by simp only[List.map,hD 5 (by decide),hD 9 (by decide),hD 10 (by decide)]<;>rfl);obtain⟨⟨⟨N1,e1,u1⟩,⟨N2,e2,u2⟩,⟨N3,e3,u3⟩⟩,g9⟩:=s;have kX:Hid (St w wy [ah w.heap.size 28 #[.int .i64 os,.slice G gn gc,.slice G' n' c',.slice D' dn dc,.int .i64 st],ah (w.heap.size+1) 28 #[.int .i64 0,.slice none 0 0,.slice none 0 0,.slice none 0 0,.int .i64 0],ah g6 28 #[.int .i64 cs,.slice B1 m1 d1,.slice B2 m2 d2,.slice B3 m3 d3,.int .i64 ct],bF (.agg #[.int .i64 cs,.slice B1 m1 d1,.slice B2 m2 d2,.slice B3 m3 d3,.int .i64 ct]) bk,bF (.agg #[.int .i64 ns,.slice N1 e1 u1,.slice N2 e2 u2,.slice N3 e3 u3,.int .i64 nt]) nb,ah g9 28 #[.int .i64 ns,.slice N1 e1 u1,.slice N2 e2 u2,.slice N3 e3 u3,.int .i64 nt]]):=af Fb;clear hR hD HS Fb;have q7:=kX.out.cells 2 rfl;have q8:=kX.out.cells 5 rfl;have f7:=kX.out.free 2 rfl
     cases did with
     |false=>
      have Jb:Bx (runK b aa (k+1)=(bk,cnt)):=Bx.mk (by rw[qw.out,MC.out rfl];rfl);have uZ:=af (kX.out.pick [0,1,2,3] (by decide) rfl rfl);go_wp2
      go_roundw
      case rel=>exact⟨k+1,cnt,bk,cs,ct,B1,m1,d1,B2,m2,d2,B3,m3,d3,by omega,hcnt,by go_num,rfl,Jb,uZ.out⟩
      case measure=>simp[intOf];omega
     |true=>
      have Jb:Bx (runK b aa (k+1)=(nb,cnt+1)):=Bx.mk (by rw[qw.out];rfl)
      have hcnt2:cnt+1≤40:=by
       have:=(vz (b:=b) aa (k+1) bC.out).2.2
       rw[Jb.out,uY.out] at this;exact Nat.le_trans this kY
      have ace:(cnt:Int)+1≤40:=by omega
      have uZ:Hid (St w (((((wy.setCell ⟨g6,0,none⟩ (.int .i64 ns)).setCell ⟨g6,1,none⟩ (.slice N1 e1 u1)).setCell ⟨g6,2,none⟩ (.slice N2 e2 u2)).setCell ⟨g6,3,none⟩ (.slice N3 e3 u3)).setCell ⟨g6,4,none⟩ (.int .i64 nt)) [ah w.heap.size 28 #[.int .i64 os,.slice G gn gc,.slice G' n' c',.slice D' dn dc,.int .i64 st],ah (w.heap.size+1) 28 #[.int .i64 0,.slice none 0 0,.slice none 0 0,.slice none 0 0,.int .i64 0],ah g6 28 #[.int .i64 ns,.slice N1 e1 u1,.slice N2 e2 u2,.slice N3 e3 u3,.int .i64 nt],bF (.agg #[.int .i64 ns,.slice N1 e1 u1,.slice N2 e2 u2,.slice N3 e3 u3,.int .i64 nt]) nb]):=af ((kX.out.fH 2 rfl (.int .i64 ns) (.slice N1 e1 u1) (.slice N2 e2 u2) (.slice N3 e3 u3) (.int .i64 nt)).pick [0,1,2,4] (by decide) rfl rfl);go_wp2
      go_roundw
      case rel=>exact⟨k+1,cnt+1,nb,ns,nt,N1,e1,u1,N2,e2,u2,N3,e3,u3,by omega,hcnt2,by go_num,by go_num,Jb,uZ.out⟩
      case measure=>simp[intOf];omega
   ·obtain rfl:k=n:=by omega
    have HE:Bx (oh b aa=(bk,cnt)):=Bx.mk (by rw[←Qb.out,J4 b aa (by rw[uY.out];exact ay _)]);go_wp2;have gy:=af (HS.out.fH 1 rfl (.int .i64 cs) (.slice B1 m1 d1) (.slice B2 m2 d2) (.slice B3 m3 d3) (.int .i64 ct));have q9:=gy.out.cells 1 rfl;refine bodyPost_ret (v:=.tuple #[.agg #[.int .i64 cs,.slice B1 m1 d1,.slice B2 m2 d2,.slice B3 m3 d3,.int .i64 ct],.int .i64 (cnt:Nat)]) (by simp[results,Tryz.results58,go_sem,q5,f5]) rfl ⟨.agg #[.int .i64 cs,.slice B1 m1 d1,.slice B2 m2 d2,.slice B3 m3 d3,.int .i64 ct],by rw[HY.out,HE.out],?_⟩;rw[HY.out,HE.out];exact gy.out.pick [3] (by decide) rfl rfl
end Go.Proofs.YtkmcengmglgdeaaGreatDoor
