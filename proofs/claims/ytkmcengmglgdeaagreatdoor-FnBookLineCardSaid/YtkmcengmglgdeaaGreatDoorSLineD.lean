/- Joined texts: LineD, DrawBL, SayI, SayS. -/
import Derived.Test.YtkmcengmglgdeaaGreatDoorSDrawB
import Derived.Test.YtkmcengmglgdeaaGreatDoorSLineS
import Derived.Test.YtkmcengmglgdeaaGreatDoorSReachS
import Derived.Test.YtkmcengmglgdeaaGreatDoorSAnsI
import Derived.Test.YtkmcengmglgdeaaGreatDoorSActR

namespace Go.Proofs.YtkmcengmglgdeaaGreatDoor
set_option linter.unusedVariables false
set_option linter.unusedSimpArgs false
set_option maxRecDepth 100000
set_option maxHeartbeats 8000000
open Go.ChangeShapes Go.WideShapes Go.ChangeAt Go.RowKit
theorem Q8 (k n:Int):(lS k n).length≤100:=by
 by_cases h:lS k n=[]
 ·rw[h];simp
 ·have:=KD h
  generalize lS k n=s at this
  cases this with
  |WE n h=>have:=jJ n;simp[KE];omega
  |back n h=>have:=jJ n;simp[o5];omega
  |short=>simp[qP]
  |end_=>simp[endW]
theorem KC {w W:World} {X:dh} {g hi:Nat} (S:St w W [fG w g hi,X]) (hh:hi≤100000000000) (v:Value) (b:aG) (h:∀W' F,X.at_ W' F→RdB W' W'.heap.size v b):
  Calls Tryz.prog 45 #[.pointer (some ⟨g,0,none⟩),v] W fun e w'=>∃s:ByteArray,e= .returned (.string s)∧s.size≤100∧St w w' [fG w g (hi+20),X]:=by
 obtain⟨F0,hF0,-⟩:=S.get 1 rfl;obtain⟨G,gn,gc,G',n',c',D',dn,dc,hv⟩:=(h W F0 hF0).form;subst hv;obtain⟨os,hos⟩:∃x,b.order.start=x:=⟨_,rfl⟩;obtain⟨st,ja⟩:∃x,b.state=x:=⟨_,rfl⟩;rw[hos,ja] at h ⊢
 obtain⟨r,hr⟩:∃r,W.heap.size=r:=⟨_,rfl⟩;have aS:Hid (St w (W.alloc (.cells #[.int .i64 os,.slice G gn gc,.slice G' n' c',.slice D' dn dc,.int .i64 st] 28)) [fG w g hi,X,ah r 28 #[.int .i64 os,.slice G gn gc,.slice G' n' c',.slice D' dn dc,.int .i64 st]]):=af (by rw[←hr];exact S.alloc _ _);have H:=af h;clear S h hF0 hos ja;go_enter Tryz.func45,Tryz.ntmps45
 try rw[hr]
 go_wp2_with fail
 refine(dQ aS.out (by omega) 5).mono ?_;rintro e w1 ⟨x,rfl,hx,s1⟩;have bf:=af s1;clear s1 aS;have hx5:0≤x∧x<5:=⟨hx.1,hx.2.1 (by omega)⟩;clear hx
 by_cases hx2:x=0∨x=1
 ·rcases hx2 with rfl | rfl
  all_goals
   go_wp2_with fail
   refine(dQ (bf.out.alloc _ _) (by omega) 8).mono ?_;rintro e w2 ⟨y,rfl,hy,s2⟩;have q2:=s2.cells 3 rfl;have HS2:=af s2;clear s2;have hy5:0≤y∧y<8:=⟨hy.1,hy.2.1 (by omega)⟩;clear hy;have hy6:y=0∨y=1∨y=2∨y=3∨y=4∨y=5∨y=6∨y=7:=by omega
   clear hy5
   rcases hy6 with rfl | rfl | rfl | rfl | rfl | rfl | rfl | rfl
   all_goals
    go_wp2;go_ret;exact⟨_,rfl,by decide,(HS2.out.pick [0,1] (by decide) rfl rfl).more (by omega)⟩
 by_cases hx3:x=2
 ·subst hx3
  go_wp2_with fail
  refine(dQ (bf.out.alloc _ _) (by omega) 10).mono ?_;rintro e w2 ⟨y,rfl,hy,s2⟩;have q2:=s2.cells 3 rfl;have HS2:=af s2;clear s2;have hy5:0≤y∧y<10:=⟨hy.1,hy.2.1 (by omega)⟩;clear hy;have hy6:y=0∨y=1∨y=2∨y=3∨y=4∨y=5∨y=6∨y=7∨y=8∨y=9:=by omega
  clear hy5
  rcases hy6 with rfl | rfl | rfl | rfl | rfl | rfl | rfl | rfl | rfl | rfl
  all_goals
   go_wp2;go_ret;exact⟨_,rfl,by decide,(HS2.out.pick [0,1] (by decide) rfl rfl).more (by omega)⟩
 have e0:(x == 0)=false:=beq_false_of_ne (by omega);have e1:(x == 1)=false:=beq_false_of_ne (by omega);have e2:(x == 2)=false:=beq_false_of_ne (by omega);clear hx2 hx3 hx5;have q1:=bf.out.cells 2 rfl
 go_wp2_with fail
 refine(Dh (bf.out.pick (L':=[fG w g (hi+1),X]) [0,1] (by decide) rfl rfl) (by omega) _ b H.out).mono ?_;rintro e w2 ⟨k,m,rfl,-,-,s2⟩;have HS2:=af s2;clear s2 bf q1
 go_wp2_with fail
 refine(yw k m _).mono ?_;rintro e w3 ⟨rfl,hb3⟩;have cu:=af (HS2.out.quiet hb3);clear hb3;go_wp2;go_ret;exact⟨_,rfl,by have:=Q8 k m;show(lS k m).toArray.size≤_;rw[List.size_toArray];omega,cu.out.more (by omega)⟩
theorem NS {w W:World} {Rs:List dh} {g hi:Nat} (S:St w W (fG w g hi::Rs)) (hh:hi≤100000000000) (i:Nat) {v:Value} {b:aG} (hi':Rs[i]? =some (aI v b)):
  Calls Tryz.prog 45 #[.pointer (some ⟨g,0,none⟩),v] W fun e w'=>∃s:ByteArray,e= .returned (.string s)∧s.size≤100∧St w w' (fG w g (hi+20)::Rs):=by
 refine(KC (St.pack (Rs:=[fG w g hi]) (L:=Rs) S) hh v b fun W' F hF=>?_).mono fun e w' ⟨s,h1,h2,h4⟩=>⟨s,h1,h2,St.unpack (Rs:=[fG w g (hi+20)]) (L:=Rs) h4⟩
 obtain⟨Fs,f1,f2,f3,f4⟩:=hF;have hl:i<Fs.length:=by rw[f1];exact(bI.1 hi').1
 have hb:OwnB W' v b (Fs[i]):=f2 i _ _ hi' (bH hl);exact hb.rd
theorem rV {b:aG} {ls:List (List UInt8)} (h:aN b=false∨¬ls.length≤40):dW b ls=(oG,[]):=by
 unfold dW
 rw[if_neg]
 rcases h with h | h
 ·rw[h];simp
 ·simp[h]
theorem vN {b:aG} {ls:List (List UInt8)} (h:aN b=true) (h':ls.length≤40):dW b ls=kF b ls:=by
 unfold dW
 rw[if_pos (by rw[h,decide_eq_true h'];rfl)]
theorem AA {w W:World} (h:Below w.heap.size w W):St w W [bP (.slice none 0 0) []]:=
 ⟨h,[[]],rfl,fun i R F hR hF=>by
  match i with
  |0=>
   simp only[List.getElem?_cons_zero,Option.some.injEq] at hR hF;subst hR hF;exact⟨⟨⟨rfl,.inl ⟨rfl,rfl⟩⟩,rfl⟩,fun b hb=>by cases hb⟩
  |i+1=>simp at hR,by simp⟩
def Iw (b:aG) (ls:List (List UInt8)) (w:World) (e:Ending) (w':World):Prop:=∃v va,e= .returned (.tuple #[v,va])∧St w w' [aI v (dW b ls).1,bP va (dW b ls).2]
theorem CZ (v:Value) (b x:aG) (l al:List UInt8) (w:World) (h:RdB w w.heap.size v b) (he:rQ w) (hp:lF w) (hs:l.length≤1048576) (hx:lQ b l=(x,al)):
  Calls Tryz.prog 9 #[v,.string ⟨l.toArray⟩] w (Gives w (fun v=>.tuple #[v,.string ⟨al.toArray⟩]) fun v=>[aI v x]):=by
 have:=FU v b ⟨l.toArray⟩ w h he hp (by show l.toArray.size<_;rw[List.size_toArray];omega)
 unfold xO at this
 rw[show(⟨l.toArray⟩:ByteArray).data.toList=l from rfl,hx] at this;exact this
theorem JU (v:Value) (b:aG) (A:Option Addr) (n c:Nat) (ls:List (List UInt8)) (w:World) (h:RdB w w.heap.size v b) (ha:bJ w w.heap.size 1 A n c (strs ls)) (hls:∀l∈ls,l.length≤1048576) (he:rQ w) (hp:lF w):
  Calls Tryz.prog 22 #[v,.slice A n c] w (Iw b ls w):=by
 unfold Iw
 obtain⟨G,gn,gc,G',n',c',D',dn,dc,hv⟩:=h.form;subst hv;obtain⟨os,hos⟩:∃x,b.order.start=x:=⟨_,rfl⟩;obtain⟨st,ja⟩:∃x,b.state=x:=⟨_,rfl⟩;rw[hos,ja] at h ⊢
 have hln:ls.length=n:=by have:=ha.len;rw[oQ] at this;omega
 have lV:=af h;have nP:=Bx.mk hos;have kK:=Bx.mk ja;have HA:=af ha;have wB:=af hln;have HLS:=af hls;have HE:=af he;have HP:=af hp
 have aS:Hid (St w ((w.alloc (Obj.cells #[.int .i64 os,.slice G gn gc,.slice G' n' c',.slice D' dn dc,.int .i64 st] 28)).alloc (Obj.cells #[.int .i64 0,.slice none 0 0,.slice none 0 0,.slice none 0 0,.int .i64 0] 28)) [ah w.heap.size 28 #[.int .i64 os,.slice G gn gc,.slice G' n' c',.slice D' dn dc,.int .i64 st],ah (w.heap.size+1) 28 #[.int .i64 0,.slice none 0 0,.slice none 0 0,.slice none 0 0,.int .i64 0]]):=af (by
  have:=((St.refl w).alloc #[.int .i64 os,.slice G gn gc,.slice G' n' c',.slice D' dn dc,.int .i64 st] 28).alloc #[.int .i64 0,.slice none 0 0,.slice none 0 0,.slice none 0 0,.int .i64 0] 28
  simpa using this)
 obtain⟨bo,hok⟩:∃x,aN b=x:=⟨_,rfl⟩;have bG:=Bx.mk hok;clear h hos ja hok ha hls hln he hp
 by_cases hcase:bo=false∨¬n≤40
 ·have HN:Bx (dW b ls=(oG,[])):=Bx.mk (rV (by rcases hcase with h | h;exact .inl (bG.out.trans h);exact .inr (by rw[wB.out];exact h)));go_enter Tryz.func22,Tryz.ntmps22
  go_wp2_with fail
  refine(dF _ b _ (lV.out.up aS.out.below)).mono ?_;rw[bG.out];rintro e w1 ⟨rfl,hb1⟩;have bf:=af (aS.out.quiet hb1);have q1:=bf.out.cells 1 rfl;have f1:=bf.out.free 1 rfl;clear hb1
  cases bo with
  |false=>
   go_wp2;refine bodyPost_ret (v:=.tuple #[.agg #[.int .i64 0,.slice none 0 0,.slice none 0 0,.slice none 0 0,.int .i64 0],.slice none 0 0]) (by simp[results,Tryz.results22,go_sem,q1]) rfl ⟨.agg #[.int .i64 0,.slice none 0 0,.slice none 0 0,.slice none 0 0,.int .i64 0],.slice none 0 0,rfl,?_⟩;rw[HN.out];exact(St.book0 (bf.out.fF 1 rfl _ _ _ _ _).below).call (AA (ai _ _))
  |true=>
   have uf:(40:Int)<(n:Int):=by rcases hcase with h | h;cases h;omega
   clear hcase;go_wp2;refine bodyPost_ret (v:=.tuple #[.agg #[.int .i64 0,.slice none 0 0,.slice none 0 0,.slice none 0 0,.int .i64 0],.slice none 0 0]) (by simp[results,Tryz.results22,go_sem,q1]) rfl ⟨.agg #[.int .i64 0,.slice none 0 0,.slice none 0 0,.slice none 0 0,.int .i64 0],.slice none 0 0,rfl,?_⟩;rw[HN.out];exact(St.book0 (bf.out.fF 1 rfl _ _ _ _ _).below).call (AA (ai _ _))
 ·have yt:bo=true:=by cases bo<;>simp_all
  subst yt;have kQ:n≤40:=by omega
  have PZ:¬(40:Int)<(n:Int):=by omega
  have HY:Bx (dW b ls=kF b ls):=Bx.mk (vN bG.out (by rw[wB.out];exact kQ));clear hcase;go_enter Tryz.func22,Tryz.ntmps22
  go_wp2_with fail
  refine(dF _ b _ (lV.out.up aS.out.below)).mono ?_;rw[bG.out];rintro e w1 ⟨rfl,hb1⟩;have bf:=af (aS.out.quiet hb1);have q1:=bf.out.cells 0 rfl;clear hb1 aS
  go_wp2_with fail
  refine(pq _ b _ (lV.out.up bf.out.below)).mono ?_;rintro e w2 ⟨v2,rfl,s2⟩;obtain⟨A1,n1,c1,A2,n2,c2,A3,n3,c3,hv⟩:=s2.gU 0 rfl;rw[nP.out,kK.out] at hv;simp only[id_eq] at hv ⊢
  subst hv;obtain⟨g6,yu⟩:∃g,w2.heap.size=g:=⟨_,rfl⟩
  have HS2:Hid (St w (w2.alloc (.cells #[.int .i64 os,.slice A1 n1 c1,.slice A2 n2 c2,.slice A3 n3 c3,.int .i64 st] 28)) [bP (.slice none 0 0) [],ah w.heap.size 28 #[.int .i64 os,.slice G gn gc,.slice G' n' c',.slice D' dn dc,.int .i64 st],ah (w.heap.size+1) 28 #[.int .i64 0,.slice none 0 0,.slice none 0 0,.slice none 0 0,.int .i64 0],ah g6 28 #[.int .i64 os,.slice A1 n1 c1,.slice A2 n2 c2,.slice A3 n3 c3,.int .i64 st],aI (.agg #[.int .i64 os,.slice A1 n1 c1,.slice A2 n2 c2,.slice A3 n3 c3,.int .i64 st]) b]):=af (by
   rw[←yu]
   exact((((bf.out.call s2).alloc #[.int .i64 os,.slice A1 n1 c1,.slice A2 n2 c2,.slice A3 n3 c3,.int .i64 st] 28).call (AA (ai _ _))).pick [4,0,1,3,2] (by decide) rfl rfl))
  clear s2 bf q1;go_wp2
  go_loopw [25,7] (fun i va wr=>∃(k:Nat) (x:Value) (bk:aG) (aw:List (List UInt8)) (cs ct:Int) (B1:Option Addr) (m1 d1:Nat) (B2:Option Addr) (m2 d2:Nat) (B3:Option Addr) (m3 d3:Nat),k≤n∧i= .int .i64 k∧x=va∧aw.length=k∧Bx (zu b ls k=(bk,aw))∧Bx (bk.order.start=cs)∧Bx (bk.state=ct)∧St w wr [bP x aw,ah w.heap.size 28 #[.int .i64 os,.slice G gn gc,.slice G' n' c',.slice D' dn dc,.int .i64 st],ah (w.heap.size+1) 28 #[.int .i64 0,.slice none 0 0,.slice none 0 0,.slice none 0 0,.int .i64 0],ah g6 28 #[.int .i64 cs,.slice B1 m1 d1,.slice B2 m2 d2,.slice B3 m3 d3,.int .i64 ct],aI (.agg #[.int .i64 cs,.slice B1 m1 d1,.slice B2 m2 d2,.slice B3 m3 d3,.int .i64 ct]) bk]) (fun i _ _=>n-(intOf i).toNat)
  case atStart=>exact⟨0,_,b,[],os,st,_,_,_,_,_,_,_,_,_,by omega,rfl,rfl,rfl,Bx.mk rfl,nP,kK,by have h:=HS2.out;first | exact h | (rw[←yu] at h ⊢;exact h)⟩
  case round=>
   clear HS2;obtain⟨k,x,bk,aw,cs,ct,B1,m1,d1,B2,m2,d2,B3,m3,d3,hk,rfl,rfl,hal,TQ,HCS,HCT,S⟩:=hrel;have HS:=af S;have q6:=S.cells 3 rfl;have q5:=S.cells 2 rfl;have f6:=S.free 3 rfl;have f5:=S.free 2 rfl;clear S
   by_cases hlt:k<n
   ·obtain⟨ab,nK,rfl,hab,hcl⟩:=HA.out.at_ (by omega);obtain⟨l,hl⟩:∃l,ls[k]? =some l:=⟨ls[k]'(by rw[wB.out];exact hlt),bH _⟩;have r0:wr.cell? ⟨ab,nK+k,none⟩=some (.string ⟨l.toArray⟩):=(aF HS.out.below ab _ hab).trans (hcl k _ (by unfold strs;rw[List.getElem?_map,hl];rfl));have ND:=af (HLS.out l (bT hl));have qW:=Bx.mk (ET (b:=b) hl);rw[TQ.out] at qW;obtain⟨⟨nb,al⟩,hnb⟩:∃x,lQ bk l=x:=⟨_,rfl⟩;obtain⟨ns,hns⟩:∃x,nb.order.start=x:=⟨_,rfl⟩;obtain⟨nt,hnt⟩:∃x,nb.state=x:=⟨_,rfl⟩;have Wi:=Bx.mk hnb;have Q9:=Bx.mk hns;have Rf:=Bx.mk hnt
    simp only at qW
    rw[Wi.out] at qW;clear hnb hns hnt hab hcl hl f5 q5
    go_wp2_with fail
    refine(CZ _ bk nb l al _ (HS.out.CX 4 rfl) (HE.out.up HS.out.below) (HP.out.up HS.out.below) ND.out Wi.out).mono ?_;rintro e w4 ⟨v4,rfl,s4⟩;obtain⟨N1,e1,u1,N2,e2,u2,N3,e3,u3,hv⟩:=s4.gU 0 rfl;rw[Q9.out,Rf.out] at hv;subst hv;obtain⟨g9,WC⟩:∃g,w4.heap.size=g:=⟨_,rfl⟩;have je:Hid (St w (w4.alloc (.cells #[.int .i64 ns,.slice N1 e1 u1,.slice N2 e2 u2,.slice N3 e3 u3,.int .i64 nt] 28)) [bP x aw,ah w.heap.size 28 #[.int .i64 os,.slice G gn gc,.slice G' n' c',.slice D' dn dc,.int .i64 st],ah (w.heap.size+1) 28 #[.int .i64 0,.slice none 0 0,.slice none 0 0,.slice none 0 0,.int .i64 0],ah g6 28 #[.int .i64 cs,.slice B1 m1 d1,.slice B2 m2 d2,.slice B3 m3 d3,.int .i64 ct],aI (.agg #[.int .i64 ns,.slice N1 e1 u1,.slice N2 e2 u2,.slice N3 e3 u3,.int .i64 nt]) nb,ah g9 28 #[.int .i64 ns,.slice N1 e1 u1,.slice N2 e2 u2,.slice N3 e3 u3,.int .i64 nt]]):=af (by rw[←WC];exact((HS.out.call s4).alloc _ _).pick [0,1,2,3,5,6] (by decide) rfl rfl);clear s4 HS r0 q6 f6;have q7:=je.out.cells 3 rfl;have q8:=je.out.cells 5 rfl;have f7:=je.out.free 3 rfl;have nJ:=af ((je.out.fF 3 rfl (.int .i64 ns) (.slice N1 e1 u1) (.slice N2 e2 u2) (.slice N3 e3 u3) (.int .i64 nt)).pick [0,1,2,3,4] (by decide) rfl rfl)
    go_upto_region 10 with(fail)
    obtain⟨w8,hw8⟩:∃y,(((((w4.alloc (.cells #[.int .i64 ns,.slice N1 e1 u1,.slice N2 e2 u2,.slice N3 e3 u3,.int .i64 nt] 28)).setCell ⟨g6,0,none⟩ (.int .i64 ns)).setCell ⟨g6,1,none⟩ (.slice N1 e1 u1)).setCell ⟨g6,2,none⟩ (.slice N2 e2 u2)).setCell ⟨g6,3,none⟩ (.slice N3 e3 u3)).setCell ⟨g6,4,none⟩ (.int .i64 nt)=y:=⟨_,rfl⟩;rw[hw8] at nJ
    try rw[hw8]
    clear hw8 je q7 q8 f7;have HO:=af (nJ.out.row 0 rfl);have ZI:=nJ.out.size
    go_wp2_with (at_builtin;refine cZ AB rfl (.tmp 36) (.tmp 38) rfl w.heap.size _ _ _ rfl (HO.out.alloc _) _ _ 1 1 [.string ⟨al.toArray⟩] rfl (bJ.new _ [.string ⟨al.toArray⟩] 9 1 1 rfl (by unfold maxLen;omega)) (by simp[Value.oneCell']) (by omega) (by omega) (by simp;omega) ?_;intro v9 w9 uq C9 Dc;have fP:=af (nJ.out.Df (l:=al) uq C9 Dc);clear uq C9 Dc)
    go_wp2
    go_roundw
    case rel=>exact⟨k+1,_,nb,aw++[al],ns,nt,N1,e1,u1,N2,e2,u2,N3,e3,u3,by omega,by go_num,rfl,by simp;omega,qW,Q9,Rf,fP.out⟩
    case measure=>simp[intOf];omega
   ·obtain rfl:k=n:=by omega
    have HEE:Bx (kF b ls=(bk,aw)):=Bx.mk (by rw[←TQ.out,Ii b ls (by rw[wB.out];exact aA _)]);go_wp2;have fP:=af ((HS.out.fF 2 rfl (.int .i64 cs) (.slice B1 m1 d1) (.slice B2 m2 d2) (.slice B3 m3 d3) (.int .i64 ct)).pick [4,0] (by decide) rfl rfl);refine bodyPost_ret (v:=.tuple #[.agg #[.int .i64 cs,.slice B1 m1 d1,.slice B2 m2 d2,.slice B3 m3 d3,.int .i64 ct],x]) (by simp[results,Tryz.results22,go_sem,q5,f5]) rfl ⟨.agg #[.int .i64 cs,.slice B1 m1 d1,.slice B2 m2 d2,.slice B3 m3 d3,.int .i64 ct],x,rfl,?_⟩;rw[HY.out,HEE.out];exact fP.out
theorem St.Iz (W:World) (g:Nat) (hg:g=W.heap.size):St W (W.alloc (.cells #[] 9)) [bP (.slice (some ⟨g,0,none⟩) 0 0) []]:=
 (St.zU W g #[] 9 hg).see fun F h _=>by
  obtain⟨h1,rfl⟩:=h;exact⟨⟨by simp[strs],.inr ⟨g,0,#[],rfl,Nat.zero_le _,h1,aA _,by unfold maxLen;omega,rfl,rfl⟩⟩,rfl⟩
theorem PX (v:Value) (b x:aG) (l al:List UInt8) (w:World) (h:RdB w w.heap.size v b) (hs:l.length≤1048576) (hx:lQ b l=(x,al)):
  Calls Tryz.prog 10 #[v,.string ⟨l.toArray⟩] w (Gives w (fun v=>.tuple #[v,.string ⟨al.toArray⟩]) fun v=>[aI v x]):=by
 have:=FQ v b ⟨l.toArray⟩ w h (by show l.toArray.size≤_;rw[List.size_toArray];omega)
 unfold xO at this
 rw[show(⟨l.toArray⟩:ByteArray).data.toList=l from rfl,hx] at this;exact this
theorem JS (v:Value) (b:aG) (A:Option Addr) (n c:Nat) (ls:List (List UInt8)) (w:World) (h:RdB w w.heap.size v b) (ha:bJ w w.heap.size 1 A n c (strs ls)) (hls:∀l∈ls,l.length≤1048576):
  Calls Tryz.prog 19 #[v,.slice A n c] w (Iw b ls w):=by
 unfold Iw
 obtain⟨G,gn,gc,G',n',c',D',dn,dc,hv⟩:=h.form;subst hv;obtain⟨hdn,-,-,-⟩:=h.done;obtain⟨os,hos⟩:∃x,b.order.start=x:=⟨_,rfl⟩;obtain⟨st,ja⟩:∃x,b.state=x:=⟨_,rfl⟩;rw[hos,ja] at h ⊢
 have hln:ls.length=n:=by have:=ha.len;rw[oQ] at this;omega
 have lV:=af h;have nP:=Bx.mk hos;have kK:=Bx.mk ja;have HA:=af ha;have wB:=af hln;have HLS:=af hls;have HDN:=af hdn;have gy:Hid (b.done.length=dn):=af hdn.len;obtain⟨g6,yu⟩:∃g,w.heap.size+2=g:=⟨_,rfl⟩
 have aS:Hid (St w (((w.alloc (Obj.cells #[.int .i64 os,.slice G gn gc,.slice G' n' c',.slice D' dn dc,.int .i64 st] 28)).alloc (Obj.cells #[.int .i64 0,.slice none 0 0,.slice none 0 0,.slice none 0 0,.int .i64 0] 28)).alloc (.cells #[] 9)) [bP (.slice (some ⟨g6,0,none⟩) 0 0) [],ah w.heap.size 28 #[.int .i64 os,.slice G gn gc,.slice G' n' c',.slice D' dn dc,.int .i64 st],ah (w.heap.size+1) 28 #[.int .i64 0,.slice none 0 0,.slice none 0 0,.slice none 0 0,.int .i64 0]]):=af (by
  have:=((St.refl w).alloc #[.int .i64 os,.slice G gn gc,.slice G' n' c',.slice D' dn dc,.int .i64 st] 28).alloc #[.int .i64 0,.slice none 0 0,.slice none 0 0,.slice none 0 0,.int .i64 0] 28
  have h2:=this.call (St.Iz _ g6 (by simp[←yu]))
  simpa using h2.pick (L':=[bP (.slice (some ⟨g6,0,none⟩) 0 0) [],ah w.heap.size 28 #[.int .i64 os,.slice G gn gc,.slice G' n' c',.slice D' dn dc,.int .i64 st],ah (w.alloc (Obj.cells #[.int .i64 os,.slice G gn gc,.slice G' n' c',.slice D' dn dc,.int .i64 st] 28)).heap.size 28 #[.int .i64 0,.slice none 0 0,.slice none 0 0,.slice none 0 0,.int .i64 0]]) [2,0,1] (by decide) rfl rfl)
 obtain⟨bo,hok⟩:∃x,aN b=x:=⟨_,rfl⟩;have bG:=Bx.mk hok;clear h hos ja hok ha hls hln hdn;have q0:=aS.out.cells 1 rfl
 by_cases hcase:bo=false∨¬n≤40
 ·have HN:Bx (dW b ls=(oG,[])):=Bx.mk (rV (by rcases hcase with h | h;exact .inl (bG.out.trans h);exact .inr (by rw[wB.out];exact h)));go_enter Tryz.func19,Tryz.ntmps19
  go_wp2_with fail
  try simp only[yu]
  refine(dM _ b _ (lV.out.up aS.out.below)).mono ?_;rw[bG.out];rintro e w1 ⟨rfl,hb1⟩;have bf:=af (aS.out.quiet hb1);have q1:=bf.out.cells 2 rfl;have f1:=bf.out.free 2 rfl;clear hb1 q0
  have uf:bo=true→(40:Int)<(n:Int):=fun h=>by rcases hcase with h' | h';rw[h] at h';cases h';omega
  clear hcase
  cases bo with
  |false=>
   clear uf;go_wp2;refine bodyPost_ret (v:=.tuple #[.agg #[.int .i64 0,.slice none 0 0,.slice none 0 0,.slice none 0 0,.int .i64 0],.slice (some ⟨g6,0,none⟩) 0 0]) (by simp[results,Tryz.results19,go_sem,q1]) rfl ⟨.agg #[.int .i64 0,.slice none 0 0,.slice none 0 0,.slice none 0 0,.int .i64 0],.slice (some ⟨g6,0,none⟩) 0 0,rfl,?_⟩;rw[HN.out];exact(((bf.out.fF 2 rfl _ _ _ _ _).call (St.book0 (ai _ _))).pick [3,0] (by decide) rfl rfl)
  |true=>
   have uf:=uf rfl;go_wp2;refine bodyPost_ret (v:=.tuple #[.agg #[.int .i64 0,.slice none 0 0,.slice none 0 0,.slice none 0 0,.int .i64 0],.slice (some ⟨g6,0,none⟩) 0 0]) (by simp[results,Tryz.results19,go_sem,q1]) rfl ⟨.agg #[.int .i64 0,.slice none 0 0,.slice none 0 0,.slice none 0 0,.int .i64 0],.slice (some ⟨g6,0,none⟩) 0 0,rfl,?_⟩;rw[HN.out];exact(((bf.out.fF 2 rfl _ _ _ _ _).call (St.book0 (ai _ _))).pick [3,0] (by decide) rfl rfl)
 ·have yt:bo=true:=by cases bo<;>simp_all
  subst yt;have kQ:n≤40:=by omega
  have PZ:¬(40:Int)<(n:Int):=by omega
  have HY:Bx (dW b ls=kF b ls):=Bx.mk (vN bG.out (by rw[wB.out];exact kQ));have um:=Bx.mk (bF bG.out).1;have HWD:=Bx.mk (fB bG.out);have zM:dn≤1000:=by have:=(bF bG.out).2.1;rw[gy.out] at this;omega
  clear hcase;go_enter Tryz.func19,Tryz.ntmps19
  go_wp2_with fail
  try simp only[yu]
  refine(dM _ b _ (lV.out.up aS.out.below)).mono ?_;rw[bG.out];rintro e w1 ⟨rfl,hb1⟩;have bf:=af (aS.out.quiet hb1);have q1:=bf.out.cells 1 rfl;clear hb1 aS q0
  go_wp2_with fail
  refine(eP _ b D' dn dc b.done _ (lV.out.up bf.out.below) um.out (HDN.out.up bf.out.below) zM).mono ?_;rw[HWD.out];rintro e w2 ⟨v2,rfl,s2⟩;obtain⟨A1,n1,c1,A2,n2,c2,A3,n3,c3,hv⟩:=s2.gU 0 rfl;rw[nP.out,kK.out] at hv;simp only[id_eq] at hv ⊢
  subst hv;obtain⟨g7,WB⟩:∃g,w2.heap.size=g:=⟨_,rfl⟩
  have HS2:Hid (St w (w2.alloc (.cells #[.int .i64 os,.slice A1 n1 c1,.slice A2 n2 c2,.slice A3 n3 c3,.int .i64 st] 28)) [bP (.slice (some ⟨g6,0,none⟩) 0 0) [],ah w.heap.size 28 #[.int .i64 os,.slice G gn gc,.slice G' n' c',.slice D' dn dc,.int .i64 st],ah (w.heap.size+1) 28 #[.int .i64 0,.slice none 0 0,.slice none 0 0,.slice none 0 0,.int .i64 0],ah g7 28 #[.int .i64 os,.slice A1 n1 c1,.slice A2 n2 c2,.slice A3 n3 c3,.int .i64 st],aI (.agg #[.int .i64 os,.slice A1 n1 c1,.slice A2 n2 c2,.slice A3 n3 c3,.int .i64 st]) b]):=af (by
   rw[←WB]
   exact((bf.out.call s2).alloc #[.int .i64 os,.slice A1 n1 c1,.slice A2 n2 c2,.slice A3 n3 c3,.int .i64 st] 28).pick [0,1,2,4,3] (by decide) rfl rfl)
  clear s2 bf q1;go_wp2
  go_loopw [8,6] (fun i va wr=>∃(k:Nat) (x:Value) (bk:aG) (aw:List (List UInt8)) (cs ct:Int) (B1:Option Addr) (m1 d1:Nat) (B2:Option Addr) (m2 d2:Nat) (B3:Option Addr) (m3 d3:Nat),k≤n∧i= .int .i64 k∧x=va∧aw.length=k∧Bx (zu b ls k=(bk,aw))∧Bx (bk.order.start=cs)∧Bx (bk.state=ct)∧St w wr [bP x aw,ah w.heap.size 28 #[.int .i64 os,.slice G gn gc,.slice G' n' c',.slice D' dn dc,.int .i64 st],ah (w.heap.size+1) 28 #[.int .i64 0,.slice none 0 0,.slice none 0 0,.slice none 0 0,.int .i64 0],ah g7 28 #[.int .i64 cs,.slice B1 m1 d1,.slice B2 m2 d2,.slice B3 m3 d3,.int .i64 ct],aI (.agg #[.int .i64 cs,.slice B1 m1 d1,.slice B2 m2 d2,.slice B3 m3 d3,.int .i64 ct]) bk]) (fun i _ _=>n-(intOf i).toNat)
  case atStart=>exact⟨0,_,b,[],os,st,_,_,_,_,_,_,_,_,_,by omega,rfl,rfl,rfl,Bx.mk rfl,nP,kK,by have h:=HS2.out;first | exact h | (rw[←WB] at h ⊢;exact h)⟩
  case round=>
   clear HS2;obtain⟨k,x,bk,aw,cs,ct,B1,m1,d1,B2,m2,d2,B3,m3,d3,hk,rfl,rfl,hal,TQ,HCS,HCT,S⟩:=hrel;have HS:=af S;have q6:=S.cells 3 rfl;have q5:=S.cells 2 rfl;have f6:=S.free 3 rfl;have f5:=S.free 2 rfl;clear S
   by_cases hlt:k<n
   ·obtain⟨ab,nK,rfl,hab,hcl⟩:=HA.out.at_ (by omega);obtain⟨l,hl⟩:∃l,ls[k]? =some l:=⟨ls[k]'(by rw[wB.out];exact hlt),bH _⟩;have HAB:=af hab;have Ud:Hid (w.cell? ⟨ab,nK+k,none⟩=some (.string ⟨l.toArray⟩)):=af (hcl k _ (by unfold strs;rw[List.getElem?_map,hl];rfl));have Q5:Hid ((k:Int)<(n:Int)):=af (by omega);have ND:=af (HLS.out l (bT hl));have qW:=Bx.mk (ET (b:=b) hl);rw[TQ.out] at qW;obtain⟨⟨nb,al⟩,hnb⟩:∃x,lQ bk l=x:=⟨_,rfl⟩;obtain⟨ns,hns⟩:∃x,nb.order.start=x:=⟨_,rfl⟩;obtain⟨nt,hnt⟩:∃x,nb.state=x:=⟨_,rfl⟩;have Wi:=Bx.mk hnb;have Q9:=Bx.mk hns;have Rf:=Bx.mk hnt
    simp only at qW
    rw[Wi.out] at qW;clear hnb hns hnt hab hcl hl f5 q5
    go_upto_region 8 with(fail)
    clear q6 f6
    refine kG (σ:=((Option Addr×Nat×Nat)×(Option Addr×Nat×Nat)×(Option Addr×Nat×Nat))×Nat)
     (fun s i=>match i with
      |0=>.agg #[.int .i64 cs,.slice B1 m1 d1,.slice B2 m2 d2,.slice B3 m3 d3,.int .i64 ct]
      |1=>.slice (some ⟨ab,nK,none⟩) n c
      |2=>.int .i64 (k:Int)
      |3=>.pointer (some ⟨ab,nK+k,none⟩)
      |4=>.string ⟨l.toArray⟩
      |5=>.tuple #[.agg #[.int .i64 ns,.slice s.1.1.1 s.1.1.2.1 s.1.1.2.2,.slice s.1.2.1.1 s.1.2.1.2.1 s.1.2.1.2.2,.slice s.1.2.2.1 s.1.2.2.2.1 s.1.2.2.2.2,.int .i64 nt],.string ⟨al.toArray⟩]
      |6=>.tuple #[.agg #[.int .i64 ns,.slice s.1.1.1 s.1.1.2.1 s.1.1.2.2,.slice s.1.2.1.1 s.1.2.1.2.1 s.1.2.1.2.2,.slice s.1.2.2.1 s.1.2.2.2.1 s.1.2.2.2.2,.int .i64 nt],.string ⟨al.toArray⟩]
      |7=>.agg #[.int .i64 ns,.slice s.1.1.1 s.1.1.2.1 s.1.1.2.2,.slice s.1.2.1.1 s.1.2.1.2.1 s.1.2.1.2.2,.slice s.1.2.2.1 s.1.2.2.2.1 s.1.2.2.2.2,.int .i64 nt]
      |8=>.string ⟨al.toArray⟩
      |9=>.pointer (some ⟨s.2,0,none⟩)
      |11=>.string ⟨al.toArray⟩
      |_=>undef)
     (fun D s wx=>Sn w wx fun i=>match i with
      |0=>some (bP x aw)
      |1=>some (ah w.heap.size 28 #[.int .i64 os,.slice G gn gc,.slice G' n' c',.slice D' dn dc,.int .i64 st])
      |2=>some (ah (w.heap.size+1) 28 #[.int .i64 0,.slice none 0 0,.slice none 0 0,.slice none 0 0,.int .i64 0])
      |3=>some (ah g7 28 #[.int .i64 cs,.slice B1 m1 d1,.slice B2 m2 d2,.slice B3 m3 d3,.int .i64 ct])
      |4=>some (aI (.agg #[.int .i64 cs,.slice B1 m1 d1,.slice B2 m2 d2,.slice B3 m3 d3,.int .i64 ct]) bk)
      |5=>if D 5=true then some (aI (.agg #[.int .i64 ns,.slice s.1.1.1 s.1.1.2.1 s.1.1.2.2,.slice s.1.2.1.1 s.1.2.1.2.1 s.1.2.1.2.2,.slice s.1.2.2.1 s.1.2.2.2.1 s.1.2.2.2.2,.int .i64 nt]) nb) else none
      |6=>if D 9=true then some (ah s.2 28 (if D 10=true then #[.int .i64 ns,.slice s.1.1.1 s.1.1.2.1 s.1.1.2.2,.slice s.1.2.1.1 s.1.2.1.2.1 s.1.2.1.2.2,.slice s.1.2.2.1 s.1.2.2.2.1 s.1.2.2.2.2,.int .i64 nt] else #[.int .i64 0,.slice none 0 0,.slice none 0 0,.slice none 0 0,.int .i64 0])) else none
      |_=>none)
     (((none,0,0),(none,0,0),(none,0,0)),0) ?_ ?_ ?_
    ·intro D hD;refine((Sn.dN HS.out).quiet ((ai _ _).drew)).congr fun i=>?_
     match i with
     |0 | 1 | 2 | 3 | 4=>rfl
     |5=>simp only[hD 5 (by decide)];rfl
     |6=>simp only[hD 9 (by decide)];rfl
     |q+7=>rfl
    ·refine Cs (fun D s wx hR _ hd _ _ hs K hK=>?_) ?_
     ·have e7:=hs.o 7 (.pointer (some ⟨g7,0,none⟩));clear hs;have qk:=(hR.blk 3 rfl).cell;go_simp;exact hK s wx sv hR
     refine Cs (fun D s wx hR _ hd _ _ hs K hK=>?_) ?_
     ·have e1:=hs.o 1 (.slice (some ⟨ab,nK,none⟩) n c);clear hs;go_simp;exact hK s wx sv hR
     refine Cs (fun D s wx hR _ hd _ _ hs K hK=>?_) ?_
     ·have e8:=hs.o 8 (.int .i64 (k:Int));clear hs;go_simp;exact hK s wx sv hR
     refine Cs (fun D s wx hR _ hd _ _ hs K hK=>?_) ?_
     ·have e34:=hs.v 1 34 hd;have e35:=hs.v 2 35 hd;clear hs;have h0:=Q5.out;go_simp;exact hK s wx sv hR
     refine Cs (fun D s wx hR _ hd _ _ hs K hK=>?_) ?_
     ·have e36:=hs.v 3 36 hd;clear hs;have c0:wx.cell? ⟨ab,nK+k,none⟩=some (.string ⟨l.toArray⟩):=(aF hR.below ab _ HAB.out).trans Ud.out;go_simp;exact hK s wx sv hR
     refine Cs (fun D s wx hR (hDi:D 5=false) hd hsh _ hs K hK=>?_) ?_
     ·have e33:=hs.v 0 33 hd;have e37:=hs.v 4 37 hd;have g33:=aX e33;have g37:=aX e37;clear hs;have n6:D 6=false:=hsh.no hDi 6 rfl ⟨5,.data⟩ (by simp) rfl rfl;have n7:D 7=false:=hsh.no n6 7 rfl ⟨6,.data⟩ (by simp) rfl rfl;have n8:D 8=false:=hsh.no n6 8 rfl ⟨6,.data⟩ (by simp) rfl rfl;have n10:D 10=false:=hsh.no n7 10 rfl ⟨7,.data⟩ (by simp) rfl rfl;have n11:D 11=false:=hsh.no n8 11 rfl ⟨8,.data⟩ (by simp) rfl rfl;go_simp;refine(PX _ bk nb l al _ (hR.CX 4 rfl) ND.out Wi.out).mono ?_;rintro e2 w2 ⟨v2,rfl,s2⟩;obtain⟨A1,n1,c1,A2,n2,c2,A3,n3,c3,hv⟩:=s2.gU 0 rfl;rw[Q9.out,Rf.out] at hv;subst hv
      refine hK (((A1,n1,c1),(A2,n2,c2),(A3,n3,c3)),s.2) w2
       (fun j hj=>by
        match j,hj with
        |0,hj | 1,hj | 2,hj | 3,hj | 4,hj=>rfl
        |5,hj=>rw[hDi] at hj;cases hj
        |6,hj=>rw[n6] at hj;cases hj
        |7,hj=>rw[n7] at hj;cases hj
        |8,hj=>rw[n8] at hj;cases hj
        |9,hj=>rfl
        |10,hj=>rw[n10] at hj;cases hj
        |11,hj=>rw[n11] at hj;cases hj
        |_+12,hj=>rfl)
       ((hR.add 5 (if_neg (by rw[hDi];simp)) s2).congr
        (fun i=>by
         match i with
         |0 | 1 | 2 | 3 | 4 | 5=>rfl
         |6=>(show(if D 9=true then some (ah _ _ (if D 10=true then _ else _)) else none)=(if D 9=true then some (ah _ _ (if D 10=true then _ else _)) else none);rw[n10]<;>rfl)
         |q+7=>exact(if_neg (show¬(q+7=5) by omega)).symm))
     refine Cs (fun D s wx hR _ hd _ _ hs K hK=>?_) ?_
     ·have e38:=hs.v 5 38 hd;clear hs;go_simp;exact hK s wx sv hR
     refine Cs (fun D s wx hR _ hd _ _ hs K hK=>?_) ?_
     ·have e32:=hs.v 6 32 hd;clear hs;go_simp;exact hK s wx sv hR
     refine Cs (fun D s wx hR _ hd _ _ hs K hK=>?_) ?_
     ·have e32:=hs.v 6 32 hd;clear hs;go_simp;exact hK s wx sv hR
     refine Cs (fun D s wx hR (hDi:D 9=false) hd hsh _ hs K hK=>?_) ?_
     ·clear hs;have n10:D 10=false:=hsh.no hDi 10 rfl ⟨9,.data⟩ (by simp) rfl rfl;go_simp
      refine hK (s.1,wx.heap.size) _
       (fun j hj=>by
        match j,hj with
        |0,hj | 1,hj | 2,hj | 3,hj | 4,hj | 5,hj | 6,hj | 7,hj | 8,hj=>rfl
        |9,hj=>rw[hDi] at hj;cases hj
        |10,hj | 11,hj=>rfl
        |_+12,hj=>rfl)
       ((hR.add 6 (if_neg (by rw[hDi];simp)) (St.new1 wx #[.int .i64 0,.slice none 0 0,.slice none 0 0,.slice none 0 0,.int .i64 0] 28)).congr
        (fun i=>by
         match i with
         |0 | 1 | 2 | 3 | 4 | 5=>rfl
         |6=>(show some (ah _ _ (if D 10=true then _ else _))=some (ah _ _ _);rw[n10]<;>rfl)
         |q+7=>exact(if_neg (show¬(q+7=6) by omega)).symm))
     refine Cs (fun D s wx hR (hDi:D 10=false) hd _ _ hs K hK=>?_) ?_
     ·have e9:=hs.v 9 9 hd;have e39:=hs.v 7 39 hd;clear hs;have dA:D 9=true:=hd ⟨9,.data⟩ (by simp) rfl;have kb:fU wx s.2 28 #[.int .i64 0,.slice none 0 0,.slice none 0 0,.slice none 0 0,.int .i64 0]:=hR.blk 6 (by simp only[dA,hDi]<;>rfl);have f0:=kb.frozen;have qk:=kb.cell;go_simp
      exact hK s _ sv ((hR.fF 6 (by simp only[dA,hDi];rfl) _ _ _ _ _).congr
       (fun i=>by
        match i with
        |0 | 1 | 2 | 3 | 4 | 5=>rfl
        |6=>(show(if D 9=true then some (ah _ _ _) else none)=some (ah _ _ _);rw[dA];rfl)
        |q+7=>exact(if_neg (show¬(q+7=6) by omega)).symm))
     refine Cs (fun D s wx hR _ hd _ _ hs K hK=>?_) ?_
     ·have e40:=hs.v 8 40 hd;clear hs;go_simp;exact hK s wx sv hR
     exact aj.nil
    ·intro D s wx hR hD;simp only[eH,Act.put,aO,aU,aW];have S7:=hR.eG [0,1,2,3,5,6] (L:=[bP x aw,ah w.heap.size 28 #[.int .i64 os,.slice G gn gc,.slice G' n' c',.slice D' dn dc,.int .i64 st],ah (w.heap.size+1) 28 #[.int .i64 0,.slice none 0 0,.slice none 0 0,.slice none 0 0,.int .i64 0],ah g7 28 #[.int .i64 cs,.slice B1 m1 d1,.slice B2 m2 d2,.slice B3 m3 d3,.int .i64 ct],aI (.agg #[.int .i64 ns,.slice s.1.1.1 s.1.1.2.1 s.1.1.2.2,.slice s.1.2.1.1 s.1.2.1.2.1 s.1.2.1.2.2,.slice s.1.2.2.1 s.1.2.2.2.1 s.1.2.2.2.2,.int .i64 nt]) nb,ah s.2 28 #[.int .i64 ns,.slice s.1.1.1 s.1.1.2.1 s.1.1.2.2,.slice s.1.2.1.1 s.1.2.1.2.1 s.1.2.1.2.2,.slice s.1.2.2.1 s.1.2.2.2.1 s.1.2.2.2.2,.int .i64 nt]]) (by decide) (by simp only[List.map,hD 5 (by decide),hD 9 (by decide),hD 10 (by decide)]<;>rfl);obtain⟨⟨⟨N1,e1,u1⟩,⟨N2,e2,u2⟩,⟨N3,e3,u3⟩⟩,g9⟩:=s;have je:Hid (St w wx [bP x aw,ah w.heap.size 28 #[.int .i64 os,.slice G gn gc,.slice G' n' c',.slice D' dn dc,.int .i64 st],ah (w.heap.size+1) 28 #[.int .i64 0,.slice none 0 0,.slice none 0 0,.slice none 0 0,.int .i64 0],ah g7 28 #[.int .i64 cs,.slice B1 m1 d1,.slice B2 m2 d2,.slice B3 m3 d3,.int .i64 ct],aI (.agg #[.int .i64 ns,.slice N1 e1 u1,.slice N2 e2 u2,.slice N3 e3 u3,.int .i64 nt]) nb,ah g9 28 #[.int .i64 ns,.slice N1 e1 u1,.slice N2 e2 u2,.slice N3 e3 u3,.int .i64 nt]]):=af S7;clear hR hD S7 HS;have q7:=je.out.cells 3 rfl;have q8:=je.out.cells 5 rfl;have f7:=je.out.free 3 rfl;have nJ:Hid (St w (((((wx.setCell ⟨g7,0,none⟩ (.int .i64 ns)).setCell ⟨g7,1,none⟩ (.slice N1 e1 u1)).setCell ⟨g7,2,none⟩ (.slice N2 e2 u2)).setCell ⟨g7,3,none⟩ (.slice N3 e3 u3)).setCell ⟨g7,4,none⟩ (.int .i64 nt)) [bP x aw,ah w.heap.size 28 #[.int .i64 os,.slice G gn gc,.slice G' n' c',.slice D' dn dc,.int .i64 st],ah (w.heap.size+1) 28 #[.int .i64 0,.slice none 0 0,.slice none 0 0,.slice none 0 0,.int .i64 0],ah g7 28 #[.int .i64 ns,.slice N1 e1 u1,.slice N2 e2 u2,.slice N3 e3 u3,.int .i64 nt],aI (.agg #[.int .i64 ns,.slice N1 e1 u1,.slice N2 e2 u2,.slice N3 e3 u3,.int .i64 nt]) nb]):=af ((je.out.fF 3 rfl (.int .i64 ns) (.slice N1 e1 u1) (.slice N2 e2 u2) (.slice N3 e3 u3) (.int .i64 nt)).pick [0,1,2,3,4] (by decide) rfl rfl)
     go_upto_region 10 with(fail)
     obtain⟨w8,hw8⟩:∃y,((((wx.setCell ⟨g7,0,none⟩ (.int .i64 ns)).setCell ⟨g7,1,none⟩ (.slice N1 e1 u1)).setCell ⟨g7,2,none⟩ (.slice N2 e2 u2)).setCell ⟨g7,3,none⟩ (.slice N3 e3 u3)).setCell ⟨g7,4,none⟩ (.int .i64 nt)=y:=⟨_,rfl⟩;rw[hw8] at nJ
     try rw[hw8]
     clear hw8 je q7 q8 f7;have HO:=af (nJ.out.row 0 rfl);have ZI:=nJ.out.size
     go_wp2_with (at_builtin;refine cZ AB rfl (.tmp 42) (.tmp 44) rfl w.heap.size _ _ _ rfl (HO.out.alloc _) _ _ 1 1 [.string ⟨al.toArray⟩] rfl (bJ.new _ [.string ⟨al.toArray⟩] 9 1 1 rfl (by unfold maxLen;omega)) (by simp[Value.oneCell']) (by omega) (by omega) (by simp;omega) ?_;intro v9 w9 uq C9 Dc;have fP:=af (nJ.out.Df (l:=al) uq C9 Dc);clear uq C9 Dc)
     go_wp2
     go_roundw
     case rel=>exact⟨k+1,_,nb,aw++[al],ns,nt,N1,e1,u1,N2,e2,u2,N3,e3,u3,by omega,by go_num,rfl,by simp;omega,qW,Q9,Rf,fP.out⟩
     case measure=>simp[intOf];omega
   ·obtain rfl:k=n:=by omega
    have HEE:Bx (kF b ls=(bk,aw)):=Bx.mk (by rw[←TQ.out,Ii b ls (by rw[wB.out];exact aA _)]);go_wp2;have fP:=af ((HS.out.fF 2 rfl (.int .i64 cs) (.slice B1 m1 d1) (.slice B2 m2 d2) (.slice B3 m3 d3) (.int .i64 ct)).pick [4,0] (by decide) rfl rfl);refine bodyPost_ret (v:=.tuple #[.agg #[.int .i64 cs,.slice B1 m1 d1,.slice B2 m2 d2,.slice B3 m3 d3,.int .i64 ct],x]) (by simp[results,Tryz.results19,go_sem,q5,f5]) rfl ⟨.agg #[.int .i64 cs,.slice B1 m1 d1,.slice B2 m2 d2,.slice B3 m3 d3,.int .i64 ct],x,rfl,?_⟩;rw[HY.out,HEE.out];exact fP.out
end Go.Proofs.YtkmcengmglgdeaaGreatDoor
