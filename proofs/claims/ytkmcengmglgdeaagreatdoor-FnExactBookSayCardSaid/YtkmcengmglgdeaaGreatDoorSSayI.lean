/- Joined texts: SayI, SayS. -/
import Derived.Test.YtkmcengmglgdeaaGreatDoorSAnsI
import Derived.Test.YtkmcengmglgdeaaGreatDoorSActR
import Derived.Test.YtkmcengmglgdeaaGreatDoorSLineS

namespace Go.Proofs.YtkmcengmglgdeaaGreatDoor
set_option linter.unusedVariables false
set_option linter.unusedSimpArgs false
set_option maxRecDepth 100000
set_option maxHeartbeats 8000000
open Go.ChangeShapes Go.WideShapes Go.ChangeAt Go.RowKit
theorem qU {b:aI} {ls:List (List UInt8)} (h:aP b=false∨¬ls.length≤40):jG b ls=(sK,[]):=by
 unfold jG
 rw[if_neg]
 rcases h with h | h
 ·rw[h];simp
 ·simp[h]
theorem pX {b:aI} {ls:List (List UInt8)} (h:aP b=true) (h':ls.length≤40):jG b ls=kM b ls:=by
 unfold jG
 rw[if_pos (by rw[h,decide_eq_true h'];rfl)]
theorem yT {w W:World} (h:Below w.heap.size w W):St w W [dZ (.slice none 0 0) []]:=
 ⟨h,[[]],rfl,fun i R F hR hF=>by
  match i with
  |0=>
   simp only[List.getElem?_cons_zero,Option.some.injEq] at hR hF;subst hR hF;exact⟨⟨⟨rfl,.inl ⟨rfl,rfl⟩⟩,rfl⟩,fun b hb=>by cases hb⟩
  |i+1=>simp at hR,by simp⟩
def Fv (b:aI) (ls:List (List UInt8)) (w:World) (e:Ending) (w':World):Prop:=∃v va,e= .returned (.tuple #[v,va])∧St w w' [bF v (jG b ls).1,dZ va (jG b ls).2]
theorem MJ (v:Value) (b x:aI) (l al:List UInt8) (w:World) (h:RdB w w.heap.size v b) (he:qV w) (hp:kR w) (hs:l.length≤1048576) (hx:nM b l=(x,al)):
  Calls Tryz.prog 9 #[v,.string ⟨l.toArray⟩] w (Gives w (fun v=>.tuple #[v,.string ⟨al.toArray⟩]) fun v=>[bF v x]):=by
 have:=Et v b ⟨l.toArray⟩ w h he hp (by show l.toArray.size<_;rw[List.size_toArray];omega)
 unfold wE at this
 rw[show(⟨l.toArray⟩:ByteArray).data.toList=l from rfl,hx] at this;exact this
theorem G9 (v:Value) (b:aI) (A:Option Addr) (n c:Nat) (ls:List (List UInt8)) (w:World) (h:RdB w w.heap.size v b) (ha:bQ w w.heap.size 1 A n c (strs ls)) (hls:∀l∈ls,l.length≤1048576) (he:qV w) (hp:kR w):
  Calls Tryz.prog 22 #[v,.slice A n c] w (Fv b ls w):=by
 unfold Fv
 obtain⟨G,gn,gc,G',n',c',D',dn,dc,hv⟩:=h.form;subst hv;obtain⟨os,hos⟩:∃x,b.order.start=x:=⟨_,rfl⟩;obtain⟨st,jw⟩:∃x,b.state=x:=⟨_,rfl⟩;rw[hos,jw] at h ⊢
 have hln:ls.length=n:=by have:=ha.len;rw[iT] at this;omega
 have lq:=af h;have pR:=Bx.mk hos;have jX:=Bx.mk jw;have HA:=af ha;have uY:=af hln;have VW:=af hls;have HE:=af he;have HP:=af hp
 have aQ:Hid (St w ((w.alloc (Obj.cells #[.int .i64 os,.slice G gn gc,.slice G' n' c',.slice D' dn dc,.int .i64 st] 28)).alloc (Obj.cells #[.int .i64 0,.slice none 0 0,.slice none 0 0,.slice none 0 0,.int .i64 0] 28)) [ah w.heap.size 28 #[.int .i64 os,.slice G gn gc,.slice G' n' c',.slice D' dn dc,.int .i64 st],ah (w.heap.size+1) 28 #[.int .i64 0,.slice none 0 0,.slice none 0 0,.slice none 0 0,.int .i64 0]]):=af (by
  have:=((St.refl w).alloc #[.int .i64 os,.slice G gn gc,.slice G' n' c',.slice D' dn dc,.int .i64 st] 28).alloc #[.int .i64 0,.slice none 0 0,.slice none 0 0,.slice none 0 0,.int .i64 0] 28
  simpa using this)
 obtain⟨bo,hok⟩:∃x,aP b=x:=⟨_,rfl⟩;have bC:=Bx.mk hok;clear h hos jw hok ha hls hln he hp
 by_cases hcase:bo=false∨¬n≤40
 ·have HN:Bx (jG b ls=(sK,[])):=Bx.mk (qU (by rcases hcase with h | h;exact .inl (bC.out.trans h);exact .inr (by rw[uY.out];exact h)));go_enter Tryz.func22,Tryz.ntmps22
  go_wp2_with fail
  refine(cu _ b _ (lq.out.up aQ.out.below)).mono ?_;rw[bC.out];rintro e w1 ⟨rfl,hb1⟩;have bG:=af (aQ.out.quiet hb1);have q1:=bG.out.cells 1 rfl;have f1:=bG.out.free 1 rfl;clear hb1
  cases bo with
  |false=>
   go_wp2;refine bodyPost_ret (v:=.tuple #[.agg #[.int .i64 0,.slice none 0 0,.slice none 0 0,.slice none 0 0,.int .i64 0],.slice none 0 0]) (by simp[results,Tryz.results22,go_sem,q1]) rfl ⟨.agg #[.int .i64 0,.slice none 0 0,.slice none 0 0,.slice none 0 0,.int .i64 0],.slice none 0 0,rfl,?_⟩;rw[HN.out];exact(St.book0 (bG.out.fH 1 rfl _ _ _ _ _).below).call (yT (ai _ _))
  |true=>
   have tu:(40:Int)<(n:Int):=by rcases hcase with h | h;cases h;omega
   clear hcase;go_wp2;refine bodyPost_ret (v:=.tuple #[.agg #[.int .i64 0,.slice none 0 0,.slice none 0 0,.slice none 0 0,.int .i64 0],.slice none 0 0]) (by simp[results,Tryz.results22,go_sem,q1]) rfl ⟨.agg #[.int .i64 0,.slice none 0 0,.slice none 0 0,.slice none 0 0,.int .i64 0],.slice none 0 0,rfl,?_⟩;rw[HN.out];exact(St.book0 (bG.out.fH 1 rfl _ _ _ _ _).below).call (yT (ai _ _))
 ·have OW:bo=true:=by cases bo<;>simp_all
  subst OW;have kY:n≤40:=by omega
  have Tj:¬(40:Int)<(n:Int):=by omega
  have HY:Bx (jG b ls=kM b ls):=Bx.mk (pX bC.out (by rw[uY.out];exact kY));clear hcase;go_enter Tryz.func22,Tryz.ntmps22
  go_wp2_with fail
  refine(cu _ b _ (lq.out.up aQ.out.below)).mono ?_;rw[bC.out];rintro e w1 ⟨rfl,hb1⟩;have bG:=af (aQ.out.quiet hb1);have q1:=bG.out.cells 0 rfl;clear hb1 aQ
  go_wp2_with fail
  refine(nX _ b _ (lq.out.up bG.out.below)).mono ?_;rintro e w2 ⟨v2,rfl,s2⟩;obtain⟨A1,n1,c1,A2,n2,c2,A3,n3,c3,hv⟩:=s2.gW 0 rfl;rw[pR.out,jX.out] at hv;simp only[id_eq] at hv ⊢
  subst hv;obtain⟨g6,yR⟩:∃g,w2.heap.size=g:=⟨_,rfl⟩
  have HS2:Hid (St w (w2.alloc (.cells #[.int .i64 os,.slice A1 n1 c1,.slice A2 n2 c2,.slice A3 n3 c3,.int .i64 st] 28)) [dZ (.slice none 0 0) [],ah w.heap.size 28 #[.int .i64 os,.slice G gn gc,.slice G' n' c',.slice D' dn dc,.int .i64 st],ah (w.heap.size+1) 28 #[.int .i64 0,.slice none 0 0,.slice none 0 0,.slice none 0 0,.int .i64 0],ah g6 28 #[.int .i64 os,.slice A1 n1 c1,.slice A2 n2 c2,.slice A3 n3 c3,.int .i64 st],bF (.agg #[.int .i64 os,.slice A1 n1 c1,.slice A2 n2 c2,.slice A3 n3 c3,.int .i64 st]) b]):=af (by
   rw[←yR]
   exact((((bG.out.call s2).alloc #[.int .i64 os,.slice A1 n1 c1,.slice A2 n2 c2,.slice A3 n3 c3,.int .i64 st] 28).call (yT (ai _ _))).pick [4,0,1,3,2] (by decide) rfl rfl))
  clear s2 bG q1;go_wp2
  go_loopw [25,7] (fun i va wr=>∃(k:Nat) (x:Value) (bk:aI) (aw:List (List UInt8)) (cs ct:Int) (B1:Option Addr) (m1 d1:Nat) (B2:Option Addr) (m2 d2:Nat) (B3:Option Addr) (m3 d3:Nat),k≤n∧i= .int .i64 k∧x=va∧aw.length=k∧Bx (xA b ls k=(bk,aw))∧Bx (bk.order.start=cs)∧Bx (bk.state=ct)∧St w wr [dZ x aw,ah w.heap.size 28 #[.int .i64 os,.slice G gn gc,.slice G' n' c',.slice D' dn dc,.int .i64 st],ah (w.heap.size+1) 28 #[.int .i64 0,.slice none 0 0,.slice none 0 0,.slice none 0 0,.int .i64 0],ah g6 28 #[.int .i64 cs,.slice B1 m1 d1,.slice B2 m2 d2,.slice B3 m3 d3,.int .i64 ct],bF (.agg #[.int .i64 cs,.slice B1 m1 d1,.slice B2 m2 d2,.slice B3 m3 d3,.int .i64 ct]) bk]) (fun i _ _=>n-(intOf i).toNat)
  case atStart=>exact⟨0,_,b,[],os,st,_,_,_,_,_,_,_,_,_,by omega,rfl,rfl,rfl,Bx.mk rfl,pR,jX,by have h:=HS2.out;first | exact h | (rw[←yR] at h ⊢;exact h)⟩
  case round=>
   clear HS2;obtain⟨k,x,bk,aw,cs,ct,B1,m1,d1,B2,m2,d2,B3,m3,d3,hk,rfl,rfl,hal,Qb,HCS,YP,S⟩:=hrel;have HS:=af S;have q6:=S.cells 3 rfl;have q5:=S.cells 2 rfl;have f6:=S.free 3 rfl;have f5:=S.free 2 rfl;clear S
   by_cases hlt:k<n
   ·obtain⟨ab,jb,rfl,hab,hcl⟩:=HA.out.at_ (by omega);obtain⟨l,hl⟩:∃l,ls[k]? =some l:=⟨ls[k]'(by rw[uY.out];exact hlt),bD _⟩;have r0:wr.cell? ⟨ab,jb+k,none⟩=some (.string ⟨l.toArray⟩):=(aC HS.out.below ab _ hab).trans (hcl k _ (by unfold strs;rw[List.getElem?_map,hl];rfl));have Tm:=af (VW.out l (bU hl));have qw:=Bx.mk (BI (b:=b) hl);rw[Qb.out] at qw;obtain⟨⟨nb,al⟩,hnb⟩:∃x,nM bk l=x:=⟨_,rfl⟩;obtain⟨ns,hns⟩:∃x,nb.order.start=x:=⟨_,rfl⟩;obtain⟨nt,hnt⟩:∃x,nb.state=x:=⟨_,rfl⟩;have Tn:=Bx.mk hnb;have VZ:=Bx.mk hns;have V3:=Bx.mk hnt
    simp only at qw
    rw[Tn.out] at qw;clear hnb hns hnt hab hcl hl f5 q5
    go_wp2_with fail
    refine(MJ _ bk nb l al _ (HS.out.G7 4 rfl) (HE.out.up HS.out.below) (HP.out.up HS.out.below) Tm.out Tn.out).mono ?_;rintro e w4 ⟨v4,rfl,s4⟩;obtain⟨N1,e1,u1,N2,e2,u2,N3,e3,u3,hv⟩:=s4.gW 0 rfl;rw[VZ.out,V3.out] at hv;subst hv;obtain⟨g9,XH⟩:∃g,w4.heap.size=g:=⟨_,rfl⟩;have kX:Hid (St w (w4.alloc (.cells #[.int .i64 ns,.slice N1 e1 u1,.slice N2 e2 u2,.slice N3 e3 u3,.int .i64 nt] 28)) [dZ x aw,ah w.heap.size 28 #[.int .i64 os,.slice G gn gc,.slice G' n' c',.slice D' dn dc,.int .i64 st],ah (w.heap.size+1) 28 #[.int .i64 0,.slice none 0 0,.slice none 0 0,.slice none 0 0,.int .i64 0],ah g6 28 #[.int .i64 cs,.slice B1 m1 d1,.slice B2 m2 d2,.slice B3 m3 d3,.int .i64 ct],bF (.agg #[.int .i64 ns,.slice N1 e1 u1,.slice N2 e2 u2,.slice N3 e3 u3,.int .i64 nt]) nb,ah g9 28 #[.int .i64 ns,.slice N1 e1 u1,.slice N2 e2 u2,.slice N3 e3 u3,.int .i64 nt]]):=af (by rw[←XH];exact((HS.out.call s4).alloc _ _).pick [0,1,2,3,5,6] (by decide) rfl rfl);clear s4 HS r0 q6 f6;have q7:=kX.out.cells 3 rfl;have q8:=kX.out.cells 5 rfl;have f7:=kX.out.free 3 rfl;have uZ:=af ((kX.out.fH 3 rfl (.int .i64 ns) (.slice N1 e1 u1) (.slice N2 e2 u2) (.slice N3 e3 u3) (.int .i64 nt)).pick [0,1,2,3,4] (by decide) rfl rfl)
    go_upto_region 10 with(fail)
    obtain⟨w8,hw8⟩:∃y,(((((w4.alloc (.cells #[.int .i64 ns,.slice N1 e1 u1,.slice N2 e2 u2,.slice N3 e3 u3,.int .i64 nt] 28)).setCell ⟨g6,0,none⟩ (.int .i64 ns)).setCell ⟨g6,1,none⟩ (.slice N1 e1 u1)).setCell ⟨g6,2,none⟩ (.slice N2 e2 u2)).setCell ⟨g6,3,none⟩ (.slice N3 e3 u3)).setCell ⟨g6,4,none⟩ (.int .i64 nt)=y:=⟨_,rfl⟩;rw[hw8] at uZ
    try rw[hw8]
    clear hw8 kX q7 q8 f7;have HO:=af (uZ.out.row 0 rfl);have aaG:=uZ.out.size
    go_wp2_with (at_builtin;refine dX Js rfl (.tmp 36) (.tmp 38) rfl w.heap.size _ _ _ rfl (HO.out.alloc _) _ _ 1 1 [.string ⟨al.toArray⟩] rfl (bQ.new _ [.string ⟨al.toArray⟩] 9 1 1 rfl (by unfold maxLen;omega)) (by simp[Value.oneCell']) (by omega) (by omega) (by simp;omega) ?_;intro v9 w9 Jt Tq Tt;have gy:=af (uZ.out.He (l:=al) Jt Tq Tt);clear Jt Tq Tt)
    go_wp2
    go_roundw
    case rel=>exact⟨k+1,_,nb,aw++[al],ns,nt,N1,e1,u1,N2,e2,u2,N3,e3,u3,by omega,by go_num,rfl,by simp;omega,qw,VZ,V3,gy.out⟩
    case measure=>simp[intOf];omega
   ·obtain rfl:k=n:=by omega
    have HEE:Bx (kM b ls=(bk,aw)):=Bx.mk (by rw[←Qb.out,Fz b ls (by rw[uY.out];exact ay _)]);go_wp2;have gy:=af ((HS.out.fH 2 rfl (.int .i64 cs) (.slice B1 m1 d1) (.slice B2 m2 d2) (.slice B3 m3 d3) (.int .i64 ct)).pick [4,0] (by decide) rfl rfl);refine bodyPost_ret (v:=.tuple #[.agg #[.int .i64 cs,.slice B1 m1 d1,.slice B2 m2 d2,.slice B3 m3 d3,.int .i64 ct],x]) (by simp[results,Tryz.results22,go_sem,q5,f5]) rfl ⟨.agg #[.int .i64 cs,.slice B1 m1 d1,.slice B2 m2 d2,.slice B3 m3 d3,.int .i64 ct],x,rfl,?_⟩;rw[HY.out,HEE.out];exact gy.out
theorem St.VY (W:World) (g:Nat) (hg:g=W.heap.size):St W (W.alloc (.cells #[] 9)) [dZ (.slice (some ⟨g,0,none⟩) 0 0) []]:=
 (St.yQ W g #[] 9 hg).see fun F h _=>by
  obtain⟨h1,rfl⟩:=h;exact⟨⟨by simp[strs],.inr ⟨g,0,#[],rfl,Nat.zero_le _,h1,ay _,by unfold maxLen;omega,rfl,rfl⟩⟩,rfl⟩
theorem MI (v:Value) (b x:aI) (l al:List UInt8) (w:World) (h:RdB w w.heap.size v b) (hs:l.length≤1048576) (hx:nM b l=(x,al)):
  Calls Tryz.prog 10 #[v,.string ⟨l.toArray⟩] w (Gives w (fun v=>.tuple #[v,.string ⟨al.toArray⟩]) fun v=>[bF v x]):=by
 have:=Es v b ⟨l.toArray⟩ w h (by show l.toArray.size≤_;rw[List.size_toArray];omega)
 unfold wE at this
 rw[show(⟨l.toArray⟩:ByteArray).data.toList=l from rfl,hx] at this;exact this
theorem G8 (v:Value) (b:aI) (A:Option Addr) (n c:Nat) (ls:List (List UInt8)) (w:World) (h:RdB w w.heap.size v b) (ha:bQ w w.heap.size 1 A n c (strs ls)) (hls:∀l∈ls,l.length≤1048576):
  Calls Tryz.prog 19 #[v,.slice A n c] w (Fv b ls w):=by
 unfold Fv
 obtain⟨G,gn,gc,G',n',c',D',dn,dc,hv⟩:=h.form;subst hv;obtain⟨hdn,-,-,-⟩:=h.done;obtain⟨os,hos⟩:∃x,b.order.start=x:=⟨_,rfl⟩;obtain⟨st,jw⟩:∃x,b.state=x:=⟨_,rfl⟩;rw[hos,jw] at h ⊢
 have hln:ls.length=n:=by have:=ha.len;rw[iT] at this;omega
 have lq:=af h;have pR:=Bx.mk hos;have jX:=Bx.mk jw;have HA:=af ha;have uY:=af hln;have VW:=af hls;have HDN:=af hdn;have fF:Hid (b.done.length=dn):=af hdn.len;obtain⟨g6,yR⟩:∃g,w.heap.size+2=g:=⟨_,rfl⟩
 have aQ:Hid (St w (((w.alloc (Obj.cells #[.int .i64 os,.slice G gn gc,.slice G' n' c',.slice D' dn dc,.int .i64 st] 28)).alloc (Obj.cells #[.int .i64 0,.slice none 0 0,.slice none 0 0,.slice none 0 0,.int .i64 0] 28)).alloc (.cells #[] 9)) [dZ (.slice (some ⟨g6,0,none⟩) 0 0) [],ah w.heap.size 28 #[.int .i64 os,.slice G gn gc,.slice G' n' c',.slice D' dn dc,.int .i64 st],ah (w.heap.size+1) 28 #[.int .i64 0,.slice none 0 0,.slice none 0 0,.slice none 0 0,.int .i64 0]]):=af (by
  have:=((St.refl w).alloc #[.int .i64 os,.slice G gn gc,.slice G' n' c',.slice D' dn dc,.int .i64 st] 28).alloc #[.int .i64 0,.slice none 0 0,.slice none 0 0,.slice none 0 0,.int .i64 0] 28
  have h2:=this.call (St.VY _ g6 (by simp[←yR]))
  simpa using h2.pick (L':=[dZ (.slice (some ⟨g6,0,none⟩) 0 0) [],ah w.heap.size 28 #[.int .i64 os,.slice G gn gc,.slice G' n' c',.slice D' dn dc,.int .i64 st],ah (w.alloc (Obj.cells #[.int .i64 os,.slice G gn gc,.slice G' n' c',.slice D' dn dc,.int .i64 st] 28)).heap.size 28 #[.int .i64 0,.slice none 0 0,.slice none 0 0,.slice none 0 0,.int .i64 0]]) [2,0,1] (by decide) rfl rfl)
 obtain⟨bo,hok⟩:∃x,aP b=x:=⟨_,rfl⟩;have bC:=Bx.mk hok;clear h hos jw hok ha hls hln hdn;have q0:=aQ.out.cells 1 rfl
 by_cases hcase:bo=false∨¬n≤40
 ·have HN:Bx (jG b ls=(sK,[])):=Bx.mk (qU (by rcases hcase with h | h;exact .inl (bC.out.trans h);exact .inr (by rw[uY.out];exact h)));go_enter Tryz.func19,Tryz.ntmps19
  go_wp2_with fail
  try simp only[yR]
  refine(dM _ b _ (lq.out.up aQ.out.below)).mono ?_;rw[bC.out];rintro e w1 ⟨rfl,hb1⟩;have bG:=af (aQ.out.quiet hb1);have q1:=bG.out.cells 2 rfl;have f1:=bG.out.free 2 rfl;clear hb1 q0
  have tu:bo=true→(40:Int)<(n:Int):=fun h=>by rcases hcase with h' | h';rw[h] at h';cases h';omega
  clear hcase
  cases bo with
  |false=>
   clear tu;go_wp2;refine bodyPost_ret (v:=.tuple #[.agg #[.int .i64 0,.slice none 0 0,.slice none 0 0,.slice none 0 0,.int .i64 0],.slice (some ⟨g6,0,none⟩) 0 0]) (by simp[results,Tryz.results19,go_sem,q1]) rfl ⟨.agg #[.int .i64 0,.slice none 0 0,.slice none 0 0,.slice none 0 0,.int .i64 0],.slice (some ⟨g6,0,none⟩) 0 0,rfl,?_⟩;rw[HN.out];exact(((bG.out.fH 2 rfl _ _ _ _ _).call (St.book0 (ai _ _))).pick [3,0] (by decide) rfl rfl)
  |true=>
   have tu:=tu rfl;go_wp2;refine bodyPost_ret (v:=.tuple #[.agg #[.int .i64 0,.slice none 0 0,.slice none 0 0,.slice none 0 0,.int .i64 0],.slice (some ⟨g6,0,none⟩) 0 0]) (by simp[results,Tryz.results19,go_sem,q1]) rfl ⟨.agg #[.int .i64 0,.slice none 0 0,.slice none 0 0,.slice none 0 0,.int .i64 0],.slice (some ⟨g6,0,none⟩) 0 0,rfl,?_⟩;rw[HN.out];exact(((bG.out.fH 2 rfl _ _ _ _ _).call (St.book0 (ai _ _))).pick [3,0] (by decide) rfl rfl)
 ·have OW:bo=true:=by cases bo<;>simp_all
  subst OW;have kY:n≤40:=by omega
  have Tj:¬(40:Int)<(n:Int):=by omega
  have HY:Bx (jG b ls=kM b ls):=Bx.mk (pX bC.out (by rw[uY.out];exact kY));have sZ:=Bx.mk (bH bC.out).1;have HWD:=Bx.mk (eu bC.out);have yS:dn≤1000:=by have:=(bH bC.out).2.1;rw[fF.out] at this;omega
  clear hcase;go_enter Tryz.func19,Tryz.ntmps19
  go_wp2_with fail
  try simp only[yR]
  refine(dM _ b _ (lq.out.up aQ.out.below)).mono ?_;rw[bC.out];rintro e w1 ⟨rfl,hb1⟩;have bG:=af (aQ.out.quiet hb1);have q1:=bG.out.cells 1 rfl;clear hb1 aQ q0
  go_wp2_with fail
  refine(dR _ b D' dn dc b.done _ (lq.out.up bG.out.below) sZ.out (HDN.out.up bG.out.below) yS).mono ?_;rw[HWD.out];rintro e w2 ⟨v2,rfl,s2⟩;obtain⟨A1,n1,c1,A2,n2,c2,A3,n3,c3,hv⟩:=s2.gW 0 rfl;rw[pR.out,jX.out] at hv;simp only[id_eq] at hv ⊢
  subst hv;obtain⟨g7,hg7⟩:∃g,w2.heap.size=g:=⟨_,rfl⟩
  have HS2:Hid (St w (w2.alloc (.cells #[.int .i64 os,.slice A1 n1 c1,.slice A2 n2 c2,.slice A3 n3 c3,.int .i64 st] 28)) [dZ (.slice (some ⟨g6,0,none⟩) 0 0) [],ah w.heap.size 28 #[.int .i64 os,.slice G gn gc,.slice G' n' c',.slice D' dn dc,.int .i64 st],ah (w.heap.size+1) 28 #[.int .i64 0,.slice none 0 0,.slice none 0 0,.slice none 0 0,.int .i64 0],ah g7 28 #[.int .i64 os,.slice A1 n1 c1,.slice A2 n2 c2,.slice A3 n3 c3,.int .i64 st],bF (.agg #[.int .i64 os,.slice A1 n1 c1,.slice A2 n2 c2,.slice A3 n3 c3,.int .i64 st]) b]):=af (by
   rw[←hg7]
   exact((bG.out.call s2).alloc #[.int .i64 os,.slice A1 n1 c1,.slice A2 n2 c2,.slice A3 n3 c3,.int .i64 st] 28).pick [0,1,2,4,3] (by decide) rfl rfl)
  clear s2 bG q1;go_wp2
  go_loopw [8,6] (fun i va wr=>∃(k:Nat) (x:Value) (bk:aI) (aw:List (List UInt8)) (cs ct:Int) (B1:Option Addr) (m1 d1:Nat) (B2:Option Addr) (m2 d2:Nat) (B3:Option Addr) (m3 d3:Nat),k≤n∧i= .int .i64 k∧x=va∧aw.length=k∧Bx (xA b ls k=(bk,aw))∧Bx (bk.order.start=cs)∧Bx (bk.state=ct)∧St w wr [dZ x aw,ah w.heap.size 28 #[.int .i64 os,.slice G gn gc,.slice G' n' c',.slice D' dn dc,.int .i64 st],ah (w.heap.size+1) 28 #[.int .i64 0,.slice none 0 0,.slice none 0 0,.slice none 0 0,.int .i64 0],ah g7 28 #[.int .i64 cs,.slice B1 m1 d1,.slice B2 m2 d2,.slice B3 m3 d3,.int .i64 ct],bF (.agg #[.int .i64 cs,.slice B1 m1 d1,.slice B2 m2 d2,.slice B3 m3 d3,.int .i64 ct]) bk]) (fun i _ _=>n-(intOf i).toNat)
  case atStart=>exact⟨0,_,b,[],os,st,_,_,_,_,_,_,_,_,_,by omega,rfl,rfl,rfl,Bx.mk rfl,pR,jX,by have h:=HS2.out;first | exact h | (rw[←hg7] at h ⊢;exact h)⟩
  case round=>
   clear HS2;obtain⟨k,x,bk,aw,cs,ct,B1,m1,d1,B2,m2,d2,B3,m3,d3,hk,rfl,rfl,hal,Qb,HCS,YP,S⟩:=hrel;have HS:=af S;have q6:=S.cells 3 rfl;have q5:=S.cells 2 rfl;have f6:=S.free 3 rfl;have f5:=S.free 2 rfl;clear S
   by_cases hlt:k<n
   ·obtain⟨ab,jb,rfl,hab,hcl⟩:=HA.out.at_ (by omega);obtain⟨l,hl⟩:∃l,ls[k]? =some l:=⟨ls[k]'(by rw[uY.out];exact hlt),bD _⟩;have HAB:=af hab;have OX:Hid (w.cell? ⟨ab,jb+k,none⟩=some (.string ⟨l.toArray⟩)):=af (hcl k _ (by unfold strs;rw[List.getElem?_map,hl];rfl));have Jl:Hid ((k:Int)<(n:Int)):=af (by omega);have Tm:=af (VW.out l (bU hl));have qw:=Bx.mk (BI (b:=b) hl);rw[Qb.out] at qw;obtain⟨⟨nb,al⟩,hnb⟩:∃x,nM bk l=x:=⟨_,rfl⟩;obtain⟨ns,hns⟩:∃x,nb.order.start=x:=⟨_,rfl⟩;obtain⟨nt,hnt⟩:∃x,nb.state=x:=⟨_,rfl⟩;have Tn:=Bx.mk hnb;have VZ:=Bx.mk hns;have V3:=Bx.mk hnt
    simp only at qw
    rw[Tn.out] at qw;clear hnb hns hnt hab hcl hl f5 q5
    go_upto_region 8 with(fail)
    clear q6 f6
    refine kS (σ:=((Option Addr×Nat×Nat)×(Option Addr×Nat×Nat)×(Option Addr×Nat×Nat))×Nat)
     (fun s i=>match i with
      |0=>.agg #[.int .i64 cs,.slice B1 m1 d1,.slice B2 m2 d2,.slice B3 m3 d3,.int .i64 ct]
      |1=>.slice (some ⟨ab,jb,none⟩) n c
      |2=>.int .i64 (k:Int)
      |3=>.pointer (some ⟨ab,jb+k,none⟩)
      |4=>.string ⟨l.toArray⟩
      |5=>.tuple #[.agg #[.int .i64 ns,.slice s.1.1.1 s.1.1.2.1 s.1.1.2.2,.slice s.1.2.1.1 s.1.2.1.2.1 s.1.2.1.2.2,.slice s.1.2.2.1 s.1.2.2.2.1 s.1.2.2.2.2,.int .i64 nt],.string ⟨al.toArray⟩]
      |6=>.tuple #[.agg #[.int .i64 ns,.slice s.1.1.1 s.1.1.2.1 s.1.1.2.2,.slice s.1.2.1.1 s.1.2.1.2.1 s.1.2.1.2.2,.slice s.1.2.2.1 s.1.2.2.2.1 s.1.2.2.2.2,.int .i64 nt],.string ⟨al.toArray⟩]
      |7=>.agg #[.int .i64 ns,.slice s.1.1.1 s.1.1.2.1 s.1.1.2.2,.slice s.1.2.1.1 s.1.2.1.2.1 s.1.2.1.2.2,.slice s.1.2.2.1 s.1.2.2.2.1 s.1.2.2.2.2,.int .i64 nt]
      |8=>.string ⟨al.toArray⟩
      |9=>.pointer (some ⟨s.2,0,none⟩)
      |11=>.string ⟨al.toArray⟩
      |_=>undef)
     (fun D s wx=>Sn w wx fun i=>match i with
      |0=>some (dZ x aw)
      |1=>some (ah w.heap.size 28 #[.int .i64 os,.slice G gn gc,.slice G' n' c',.slice D' dn dc,.int .i64 st])
      |2=>some (ah (w.heap.size+1) 28 #[.int .i64 0,.slice none 0 0,.slice none 0 0,.slice none 0 0,.int .i64 0])
      |3=>some (ah g7 28 #[.int .i64 cs,.slice B1 m1 d1,.slice B2 m2 d2,.slice B3 m3 d3,.int .i64 ct])
      |4=>some (bF (.agg #[.int .i64 cs,.slice B1 m1 d1,.slice B2 m2 d2,.slice B3 m3 d3,.int .i64 ct]) bk)
      |5=>if D 5=true then some (bF (.agg #[.int .i64 ns,.slice s.1.1.1 s.1.1.2.1 s.1.1.2.2,.slice s.1.2.1.1 s.1.2.1.2.1 s.1.2.1.2.2,.slice s.1.2.2.1 s.1.2.2.2.1 s.1.2.2.2.2,.int .i64 nt]) nb) else none
      |6=>if D 9=true then some (ah s.2 28 (if D 10=true then #[.int .i64 ns,.slice s.1.1.1 s.1.1.2.1 s.1.1.2.2,.slice s.1.2.1.1 s.1.2.1.2.1 s.1.2.1.2.2,.slice s.1.2.2.1 s.1.2.2.2.1 s.1.2.2.2.2,.int .i64 nt] else #[.int .i64 0,.slice none 0 0,.slice none 0 0,.slice none 0 0,.int .i64 0])) else none
      |_=>none)
     (((none,0,0),(none,0,0),(none,0,0)),0) ?_ ?_ ?_
    ·intro D hD;refine((Sn.eY HS.out).quiet ((ai _ _).drew)).congr fun i=>?_
     match i with
     |0 | 1 | 2 | 3 | 4=>rfl
     |5=>simp only[hD 5 (by decide)];rfl
     |6=>simp only[hD 9 (by decide)];rfl
     |q+7=>rfl
    ·refine Cs (fun D s wx hR _ hd _ _ hs K hK=>?_) ?_
     ·have e7:=hs.o 7 (.pointer (some ⟨g7,0,none⟩));clear hs;have qk:=(hR.blk 3 rfl).cell;go_simp;exact hK s wx sv hR
     refine Cs (fun D s wx hR _ hd _ _ hs K hK=>?_) ?_
     ·have e1:=hs.o 1 (.slice (some ⟨ab,jb,none⟩) n c);clear hs;go_simp;exact hK s wx sv hR
     refine Cs (fun D s wx hR _ hd _ _ hs K hK=>?_) ?_
     ·have e8:=hs.o 8 (.int .i64 (k:Int));clear hs;go_simp;exact hK s wx sv hR
     refine Cs (fun D s wx hR _ hd _ _ hs K hK=>?_) ?_
     ·have e34:=hs.v 1 34 hd;have e35:=hs.v 2 35 hd;clear hs;have h0:=Jl.out;go_simp;exact hK s wx sv hR
     refine Cs (fun D s wx hR _ hd _ _ hs K hK=>?_) ?_
     ·have e36:=hs.v 3 36 hd;clear hs;have c0:wx.cell? ⟨ab,jb+k,none⟩=some (.string ⟨l.toArray⟩):=(aC hR.below ab _ HAB.out).trans OX.out;go_simp;exact hK s wx sv hR
     refine Cs (fun D s wx hR (hDi:D 5=false) hd hsh _ hs K hK=>?_) ?_
     ·have e33:=hs.v 0 33 hd;have e37:=hs.v 4 37 hd;have g33:=aZ e33;have g37:=aZ e37;clear hs;have n6:D 6=false:=hsh.no hDi 6 rfl ⟨5,.data⟩ (by simp) rfl rfl;have n7:D 7=false:=hsh.no n6 7 rfl ⟨6,.data⟩ (by simp) rfl rfl;have n8:D 8=false:=hsh.no n6 8 rfl ⟨6,.data⟩ (by simp) rfl rfl;have n10:D 10=false:=hsh.no n7 10 rfl ⟨7,.data⟩ (by simp) rfl rfl;have n11:D 11=false:=hsh.no n8 11 rfl ⟨8,.data⟩ (by simp) rfl rfl;go_simp;refine(MI _ bk nb l al _ (hR.G7 4 rfl) Tm.out Tn.out).mono ?_;rintro e2 w2 ⟨v2,rfl,s2⟩;obtain⟨A1,n1,c1,A2,n2,c2,A3,n3,c3,hv⟩:=s2.gW 0 rfl;rw[VZ.out,V3.out] at hv;subst hv
      refine hK (((A1,n1,c1),(A2,n2,c2),(A3,n3,c3)),s.2) w2
       (fun j hj=>by
        match j,hj with
        |0,hj | 1,hj | 2,hj | 3,hj | 4,hj=>rfl
        |5,hj=>rw[hDi] at hj;cases hj
        |6,hj=>rw[n6] at hj;cases hj
        |7,hj=>rw[n7] at hj;cases hj
        |8,hj=>rw[n8] at hj;cases hj
        |9,hj=>rfl
        |10,hj=>rw[n10] at hj;cases hj
        |11,hj=>rw[n11] at hj;cases hj
        |_+12,hj=>rfl)
       ((hR.add 5 (if_neg (by rw[hDi];simp)) s2).congr
        (fun i=>by
         match i with
         |0 | 1 | 2 | 3 | 4 | 5=>rfl
         |6=>(show(if D 9=true then some (ah _ _ (if D 10=true then _ else _)) else none)=(if D 9=true then some (ah _ _ (if D 10=true then _ else _)) else none);rw[n10]<;>rfl)
         |q+7=>exact(if_neg (show¬(q+7=5) by omega)).symm))
     refine Cs (fun D s wx hR _ hd _ _ hs K hK=>?_) ?_
     ·have e38:=hs.v 5 38 hd;clear hs;go_simp;exact hK s wx sv hR
     refine Cs (fun D s wx hR _ hd _ _ hs K hK=>?_) ?_
     ·have e32:=hs.v 6 32 hd;clear hs;go_simp;exact hK s wx sv hR
     refine Cs (fun D s wx hR _ hd _ _ hs K hK=>?_) ?_
     ·have e32:=hs.v 6 32 hd;clear hs;go_simp;exact hK s wx sv hR
     refine Cs (fun D s wx hR (hDi:D 9=false) hd hsh _ hs K hK=>?_) ?_
     ·clear hs;have n10:D 10=false:=hsh.no hDi 10 rfl ⟨9,.data⟩ (by simp) rfl rfl;go_simp
      refine hK (s.1,wx.heap.size) _
       (fun j hj=>by
        match j,hj with
        |0,hj | 1,hj | 2,hj | 3,hj | 4,hj | 5,hj | 6,hj | 7,hj | 8,hj=>rfl
        |9,hj=>rw[hDi] at hj;cases hj
        |10,hj | 11,hj=>rfl
        |_+12,hj=>rfl)
       ((hR.add 6 (if_neg (by rw[hDi];simp)) (St.new1 wx #[.int .i64 0,.slice none 0 0,.slice none 0 0,.slice none 0 0,.int .i64 0] 28)).congr
        (fun i=>by
         match i with
         |0 | 1 | 2 | 3 | 4 | 5=>rfl
         |6=>(show some (ah _ _ (if D 10=true then _ else _))=some (ah _ _ _);rw[n10]<;>rfl)
         |q+7=>exact(if_neg (show¬(q+7=6) by omega)).symm))
     refine Cs (fun D s wx hR (hDi:D 10=false) hd _ _ hs K hK=>?_) ?_
     ·have e9:=hs.v 9 9 hd;have e39:=hs.v 7 39 hd;clear hs;have dA:D 9=true:=hd ⟨9,.data⟩ (by simp) rfl;have kb:iJ wx s.2 28 #[.int .i64 0,.slice none 0 0,.slice none 0 0,.slice none 0 0,.int .i64 0]:=hR.blk 6 (by simp only[dA,hDi]<;>rfl);have f0:=kb.frozen;have qk:=kb.cell;go_simp
      exact hK s _ sv ((hR.fH 6 (by simp only[dA,hDi];rfl) _ _ _ _ _).congr
       (fun i=>by
        match i with
        |0 | 1 | 2 | 3 | 4 | 5=>rfl
        |6=>(show(if D 9=true then some (ah _ _ _) else none)=some (ah _ _ _);rw[dA];rfl)
        |q+7=>exact(if_neg (show¬(q+7=6) by omega)).symm))
     refine Cs (fun D s wx hR _ hd _ _ hs K hK=>?_) ?_
     ·have e40:=hs.v 8 40 hd;clear hs;go_simp;exact hK s wx sv hR
     exact au.nil
    ·intro D s wx hR hD;simp only[eG,Act.put,aO,aS,aV];have S7:=hR.fO [0,1,2,3,5,6] (L:=[dZ x aw,ah w.heap.size 28 #[.int .i64 os,.slice G gn gc,.slice G' n' c',.slice D' dn dc,.int .i64 st],ah (w.heap.size+1) 28 #[.int .i64 0,.slice none 0 0,.slice none 0 0,.slice none 0 0,.int .i64 0],ah g7 28 #[.int .i64 cs,.slice B1 m1 d1,.slice B2 m2 d2,.slice B3 m3 d3,.int .i64 ct],bF (.agg #[.int .i64 ns,.slice s.1.1.1 s.1.1.2.1 s.1.1.2.2,.slice s.1.2.1.1 s.1.2.1.2.1 s.1.2.1.2.2,.slice s.1.2.2.1 s.1.2.2.2.1 s.1.2.2.2.2,.int .i64 nt]) nb,ah s.2 28 #[.int .i64 ns,.slice s.1.1.1 s.1.1.2.1 s.1.1.2.2,.slice s.1.2.1.1 s.1.2.1.2.1 s.1.2.1.2.2,.slice s.1.2.2.1 s.1.2.2.2.1 s.1.2.2.2.2,.int .i64 nt]]) (by decide) (by simp only[List.map,hD 5 (by decide),hD 9 (by decide),hD 10 (by decide)]<;>rfl);obtain⟨⟨⟨N1,e1,u1⟩,⟨N2,e2,u2⟩,⟨N3,e3,u3⟩⟩,g9⟩:=s;have kX:Hid (St w wx [dZ x aw,ah w.heap.size 28 #[.int .i64 os,.slice G gn gc,.slice G' n' c',.slice D' dn dc,.int .i64 st],ah (w.heap.size+1) 28 #[.int .i64 0,.slice none 0 0,.slice none 0 0,.slice none 0 0,.int .i64 0],ah g7 28 #[.int .i64 cs,.slice B1 m1 d1,.slice B2 m2 d2,.slice B3 m3 d3,.int .i64 ct],bF (.agg #[.int .i64 ns,.slice N1 e1 u1,.slice N2 e2 u2,.slice N3 e3 u3,.int .i64 nt]) nb,ah g9 28 #[.int .i64 ns,.slice N1 e1 u1,.slice N2 e2 u2,.slice N3 e3 u3,.int .i64 nt]]):=af S7;clear hR hD S7 HS;have q7:=kX.out.cells 3 rfl;have q8:=kX.out.cells 5 rfl;have f7:=kX.out.free 3 rfl;have uZ:Hid (St w (((((wx.setCell ⟨g7,0,none⟩ (.int .i64 ns)).setCell ⟨g7,1,none⟩ (.slice N1 e1 u1)).setCell ⟨g7,2,none⟩ (.slice N2 e2 u2)).setCell ⟨g7,3,none⟩ (.slice N3 e3 u3)).setCell ⟨g7,4,none⟩ (.int .i64 nt)) [dZ x aw,ah w.heap.size 28 #[.int .i64 os,.slice G gn gc,.slice G' n' c',.slice D' dn dc,.int .i64 st],ah (w.heap.size+1) 28 #[.int .i64 0,.slice none 0 0,.slice none 0 0,.slice none 0 0,.int .i64 0],ah g7 28 #[.int .i64 ns,.slice N1 e1 u1,.slice N2 e2 u2,.slice N3 e3 u3,.int .i64 nt],bF (.agg #[.int .i64 ns,.slice N1 e1 u1,.slice N2 e2 u2,.slice N3 e3 u3,.int .i64 nt]) nb]):=af ((kX.out.fH 3 rfl (.int .i64 ns) (.slice N1 e1 u1) (.slice N2 e2 u2) (.slice N3 e3 u3) (.int .i64 nt)).pick [0,1,2,3,4] (by decide) rfl rfl)
     go_upto_region 10 with(fail)
     obtain⟨w8,hw8⟩:∃y,((((wx.setCell ⟨g7,0,none⟩ (.int .i64 ns)).setCell ⟨g7,1,none⟩ (.slice N1 e1 u1)).setCell ⟨g7,2,none⟩ (.slice N2 e2 u2)).setCell ⟨g7,3,none⟩ (.slice N3 e3 u3)).setCell ⟨g7,4,none⟩ (.int .i64 nt)=y:=⟨_,rfl⟩;rw[hw8] at uZ
     try rw[hw8]
     clear hw8 kX q7 q8 f7;have HO:=af (uZ.out.row 0 rfl);have aaG:=uZ.out.size
     go_wp2_with (at_builtin;refine dX Js rfl (.tmp 42) (.tmp 44) rfl w.heap.size _ _ _ rfl (HO.out.alloc _) _ _ 1 1 [.string ⟨al.toArray⟩] rfl (bQ.new _ [.string ⟨al.toArray⟩] 9 1 1 rfl (by unfold maxLen;omega)) (by simp[Value.oneCell']) (by omega) (by omega) (by simp;omega) ?_;intro v9 w9 Jt Tq Tt;have gy:=af (uZ.out.He (l:=al) Jt Tq Tt);clear Jt Tq Tt)
     go_wp2
     go_roundw
     case rel=>exact⟨k+1,_,nb,aw++[al],ns,nt,N1,e1,u1,N2,e2,u2,N3,e3,u3,by omega,by go_num,rfl,by simp;omega,qw,VZ,V3,gy.out⟩
     case measure=>simp[intOf];omega
   ·obtain rfl:k=n:=by omega
    have HEE:Bx (kM b ls=(bk,aw)):=Bx.mk (by rw[←Qb.out,Fz b ls (by rw[uY.out];exact ay _)]);go_wp2;have gy:=af ((HS.out.fH 2 rfl (.int .i64 cs) (.slice B1 m1 d1) (.slice B2 m2 d2) (.slice B3 m3 d3) (.int .i64 ct)).pick [4,0] (by decide) rfl rfl);refine bodyPost_ret (v:=.tuple #[.agg #[.int .i64 cs,.slice B1 m1 d1,.slice B2 m2 d2,.slice B3 m3 d3,.int .i64 ct],x]) (by simp[results,Tryz.results19,go_sem,q5,f5]) rfl ⟨.agg #[.int .i64 cs,.slice B1 m1 d1,.slice B2 m2 d2,.slice B3 m3 d3,.int .i64 ct],x,rfl,?_⟩;rw[HY.out,HEE.out];exact gy.out
end Go.Proofs.YtkmcengmglgdeaaGreatDoor
