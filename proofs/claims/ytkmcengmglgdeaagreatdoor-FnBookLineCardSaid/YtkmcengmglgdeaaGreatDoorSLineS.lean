/- A part of the proof: LineS. -/
import Derived.Test.YtkmcengmglgdeaaGreatDoorSAnsI
import Derived.Test.YtkmcengmglgdeaaGreatDoorSDoS
import Derived.Test.YtkmcengmglgdeaaGreatDoorSRightS
import Derived.Test.YtkmcengmglgdeaaGreatDoorSTaskTS
import Derived.Test.YtkmcengmglgdeaaGreatDoorSActR
import Derived.Deep.Cut
namespace Go.Proofs.YtkmcengmglgdeaaGreatDoor
set_option linter.unusedVariables false
set_option linter.unusedSimpArgs false
set_option maxRecDepth 100000
set_option maxHeartbeats 8000000
open Go.ChangeShapes Go.WideShapes Go.ChangeAt Go.RowKit
theorem Ae (t:aB) (s:List UInt8):bY t s= -1∨bY t s=0∨bY t s=1:=by
 unfold bY
 repeat' split
 all_goals simp
def yQ (b:Bool) (s:ByteArray):ByteArray:=if b then s else⟨#[110,111]⟩
theorem Bv (b:Bool) (s:ByteArray) (w:World):
  Calls Tryz.prog 57 #[.bool b,.string s] w fun e w'=>e= .returned (.string (yQ b s))∧w=w':=by
 cases b
 all_goals
  go_enter Tryz.func57,Tryz.ntmps57;go_wp2;go_ret;exact⟨rfl,rfl⟩
theorem St.acG {w W:World} {L:List dh} (h:St w W L) (i:Nat) {g n c:Nat} {xs:List Int} (hi:L[i]? =some (ax (.slice (some ⟨g,0,none⟩) n c) xs)) (hn:xs.length=n) (k:Nat) (x:Int) (hx:xs[k]? =some x):W.cell? ⟨g,k,none⟩=some (.int .i64 x):=by
 obtain⟨F,h1,-⟩:=h.get i hi;have hr:W.ownsRow 0 3 1 (.slice (some ⟨g,0,none⟩) n c) n (Go.Proofs.YtkmcengmglgdeaaGreatDoor.ints xs):=hn▸h1.row;have hk:=(bI.1 hx).1;rw[hr.cellAt k (by omega)]
 simp[Go.Proofs.YtkmcengmglgdeaaGreatDoor.ints,hx]
theorem St.acH {w W:World} {L:List dh} (h:St w W L) (i:Nat) {v:Value} {n:Nat} {xs:List Int} (hi:L[i]? =some (ax v xs)) (hn:xs.length=n):W.ownsRow 0 3 1 v n (Go.Proofs.YtkmcengmglgdeaaGreatDoor.ints xs):=by
 obtain⟨F,h1,-⟩:=h.get i hi;exact hn▸h1.row
theorem Sm (v:Value) (b:aG) (s:ByteArray) (w:World) (h:RdB w w.heap.size v b) (hok:aN b=false):
  Calls Tryz.prog 10 #[v,.string s] w (xO b s.data.toList w):=by
 unfold xO
 rw[LX hok];obtain⟨G,gn,gc,G',n',c',D',dn,dc,hv⟩:=h.form;subst hv;obtain⟨os,hos⟩:∃x,b.order.start=x:=⟨_,rfl⟩;obtain⟨st,hst⟩:∃x,b.state=x:=⟨_,rfl⟩;rw[hos,hst] at h ⊢
 have aS:Hid (St w ((w.alloc (.cells #[.int .i64 os,.slice G gn gc,.slice G' n' c',.slice D' dn dc,.int .i64 st] 28)).alloc (.cells #[.int .i64 0,.slice none 0 0,.slice none 0 0,.slice none 0 0,.int .i64 0] 28)) [ah w.heap.size 28 #[.int .i64 os,.slice G gn gc,.slice G' n' c',.slice D' dn dc,.int .i64 st],ah (w.heap.size+1) 28 #[.int .i64 0,.slice none 0 0,.slice none 0 0,.slice none 0 0,.int .i64 0]]):=af (by
  have:=((St.refl w).alloc #[.int .i64 os,.slice G gn gc,.slice G' n' c',.slice D' dn dc,.int .i64 st] 28).alloc #[.int .i64 0,.slice none 0 0,.slice none 0 0,.slice none 0 0,.int .i64 0] 28
  simpa using this)
 have HB:=af h;have bG:=Bx.mk hok;have nP:=Bx.mk hos;have kK:=Bx.mk hst;clear h hok hos hst;go_enter Tryz.func10,Tryz.ntmps10
 go_wp2_with fail
 refine(dM _ b _ (HB.out.up aS.out.below)).mono ?_;rw[bG.out];rintro e w1 ⟨rfl,hb1⟩;have bf:=af (aS.out.quiet hb1);clear hb1 aS;have q1:=bf.out.cells 1 rfl;have f1:=bf.out.free 1 rfl;go_wp2;refine bodyPost_ret (v:=.tuple #[.agg #[.int .i64 0,.slice none 0 0,.slice none 0 0,.slice none 0 0,.int .i64 0],.string ⟨#[]⟩]) (by simp[results,Tryz.results10,go_sem,q1]) rfl ⟨.agg #[.int .i64 0,.slice none 0 0,.slice none 0 0,.slice none 0 0,.int .i64 0],rfl,?_⟩;exact St.book0 (bf.out.fF 1 rfl _ _ _ _ _).below
theorem LY (v:Value) (b:aG) (s:ByteArray) (w:World) (h:RdB w w.heap.size v b) (hok:aN b=true) (hs:s.size≤1099511627776):
  Calls Tryz.prog 10 #[v,.string s] w (xO b s.data.toList w):=by
 unfold xO
 obtain⟨G,gn,gc,G',n',c',D',dn,dc,hv⟩:=h.form;subst hv;obtain⟨os,hos⟩:∃x,b.order.start=x:=⟨_,rfl⟩;obtain⟨st,hst⟩:∃x,b.state=x:=⟨_,rfl⟩;rw[hos,hst] at h ⊢
 have aS:Hid (St w ((w.alloc (.cells #[.int .i64 os,.slice G gn gc,.slice G' n' c',.slice D' dn dc,.int .i64 st] 28)).alloc (.cells #[.int .i64 0,.slice none 0 0,.slice none 0 0,.slice none 0 0,.int .i64 0] 28)) [ah w.heap.size 28 #[.int .i64 os,.slice G gn gc,.slice G' n' c',.slice D' dn dc,.int .i64 st],ah (w.heap.size+1) 28 #[.int .i64 0,.slice none 0 0,.slice none 0 0,.slice none 0 0,.int .i64 0]]):=af (by
  have:=((St.refl w).alloc #[.int .i64 os,.slice G gn gc,.slice G' n' c',.slice D' dn dc,.int .i64 st] 28).alloc #[.int .i64 0,.slice none 0 0,.slice none 0 0,.slice none 0 0,.int .i64 0] 28
  simpa using this)
 have HB:=af h;have bG:=Bx.mk hok;have nP:=Bx.mk hos;have kK:=Bx.mk hst;have hbp:=bF hok;have acI:=Bx.mk hbp.1;have aea:dn≤1000:=by have:=h.done.1.len;omega
 have HDN:=af h.done.1;have gy:Hid (b.done.length=dn):=af h.done.1.len;have Ed:=af h.order;have Sr:=af (h.from_ hst.symm);have acJ:=Bx.mk (fZ hbp.1 hbp.2.2.1);have HWD:=Bx.mk (fB hok);obtain⟨ro,hro⟩:∃o,dB b=o:=⟨_,rfl⟩;have Bh:=Bx.mk hro;obtain⟨aa,Zu⟩:∃o,gZ b=o:=⟨_,rfl⟩;have HAA:=Bx.mk Zu;obtain⟨xs,hxs⟩:∃o,dO b.order st=o:=⟨_,rfl⟩;have HMY:=Bx.mk hxs;have HXB:Hid (∀x∈xs,0≤x∧x<100):=af fun x hx=>by rw[←hxs] at hx;have:=uJ hx;omega
 have aeb:xs.length≤6:=by rw[←hxs];exact sH b.order st
 obtain⟨oA,hoA⟩:∃o,readA s.data.toList=o:=⟨_,rfl⟩;have HR:=Bx.mk hoA;have Zh:=af hs;obtain⟨pb,hpb⟩:∃x,(lQ b s.data.toList).1=x:=⟨_,rfl⟩;obtain⟨ans,hans⟩:∃x,(⟨(lQ b s.data.toList).2.toArray⟩:ByteArray)=x:=⟨_,rfl⟩;rw[hpb,hans];have HPB:=Bx.mk hpb;have Vz:=Bx.mk hans;obtain⟨sn,hsn⟩:=bC (show 0≤st by rw[←hst];exact hbp.2.2.1.1);have HSE:=Bx.mk hsn;have zB:Hid (sn<32):=af (by have:=hbp.2.2.1.2;rw[hst] at this;omega);have aec:Hid (b.state.toNat=sn):=af (by rw[hst,hsn];simp);have HDB:Hid (dn<100000000000):=af (by omega);have HWF:=af (Zu▸En b hok);have hlen:aa.length≤2:=by rw[←Zu];exact qK b
 clear h hok hos hst hs hbp hro Zu hxs hoA hpb hans hsn;go_enter Tryz.func10,Tryz.ntmps10
 go_wp2_with fail
 refine(dM _ b _ (HB.out.up aS.out.below)).mono ?_;rw[bG.out];rintro e w1 ⟨rfl,hb1⟩;have bf:=af (aS.out.quiet hb1);clear hb1 aS;have q0:=bf.out.cells 0 rfl
 go_wp2_with fail
 refine(eP _ b D' dn dc b.done _ (HB.out.up bf.out.below) acI.out (HDN.out.up bf.out.below) aea).mono ?_;rw[HWD.out];rintro e w2 ⟨v2,rfl,s2⟩;obtain⟨A1,n1,c1,A2,n2,c2,A3,n3,c3,hv⟩:=s2.gU 0 rfl;rw[nP.out,kK.out] at hv;subst hv;obtain⟨g6,yu⟩:∃y,w2.heap.size=y:=⟨_,rfl⟩;obtain⟨g7,WB⟩:∃y,g6+1=y:=⟨_,rfl⟩;have S2:St w (w2.alloc (.cells #[.int .i64 os,.slice A1 n1 c1,.slice A2 n2 c2,.slice A3 n3 c3,.int .i64 st] 28)) [ah w.heap.size 28 #[.int .i64 os,.slice G gn gc,.slice G' n' c',.slice D' dn dc,.int .i64 st],ah (w.heap.size+1) 28 #[.int .i64 0,.slice none 0 0,.slice none 0 0,.slice none 0 0,.int .i64 0],aI (.agg #[.int .i64 os,.slice A1 n1 c1,.slice A2 n2 c2,.slice A3 n3 c3,.int .i64 st]) b,ah g6 28 #[.int .i64 os,.slice A1 n1 c1,.slice A2 n2 c2,.slice A3 n3 c3,.int .i64 st]]:=by rw[←yu];exact(bf.out.call s2).alloc _ _
 have q0:=S2.cells 0 rfl
 have HS2:Hid (St w ((w2.alloc (.cells #[.int .i64 os,.slice A1 n1 c1,.slice A2 n2 c2,.slice A3 n3 c3,.int .i64 st] 28)).alloc (.cells #[.int .i64 st,.slice G gn gc,.slice G' n' c'] 26)) [ah w.heap.size 28 #[.int .i64 os,.slice G gn gc,.slice G' n' c',.slice D' dn dc,.int .i64 st],ah (w.heap.size+1) 28 #[.int .i64 0,.slice none 0 0,.slice none 0 0,.slice none 0 0,.int .i64 0],aI (.agg #[.int .i64 os,.slice A1 n1 c1,.slice A2 n2 c2,.slice A3 n3 c3,.int .i64 st]) b,ah g6 28 #[.int .i64 os,.slice A1 n1 c1,.slice A2 n2 c2,.slice A3 n3 c3,.int .i64 st],ah g7 26 #[.int .i64 st,.slice G gn gc,.slice G' n' c']]):=af (by
  have:=S2.alloc #[.int .i64 st,.slice G gn gc,.slice G' n' c'] 26
  rw[World.size_alloc,yu,WB] at this
  exact this)
 clear s2 S2 bf
 go_wp2_with fail
 try simp only[World.size_alloc,yu,WB]
 refine(Jm s _ Zh.out).mono ?_;rw[HR.out];rintro e w4 ⟨he,hb4⟩;obtain⟨k0,m0,bo,he',hk0,hm0,yt⟩:=he.form;subst he';have HK0:=Bx.mk hk0;have CQ:=Bx.mk hm0;have HBO:=Bx.mk yt;clear he q0 hk0 hm0 yt;obtain⟨g8,NV⟩:∃y,w4.heap.size=y:=⟨_,rfl⟩;have fH:Hid (St w (w4.alloc (.cells #[.int .i64 k0,.int .i64 m0] 64)) [ah w.heap.size 28 #[.int .i64 os,.slice G gn gc,.slice G' n' c',.slice D' dn dc,.int .i64 st],ah (w.heap.size+1) 28 #[.int .i64 0,.slice none 0 0,.slice none 0 0,.slice none 0 0,.int .i64 0],aI (.agg #[.int .i64 os,.slice A1 n1 c1,.slice A2 n2 c2,.slice A3 n3 c3,.int .i64 st]) b,ah g6 28 #[.int .i64 os,.slice A1 n1 c1,.slice A2 n2 c2,.slice A3 n3 c3,.int .i64 st],ah g7 26 #[.int .i64 st,.slice G gn gc,.slice G' n' c'],ah g8 64 #[.int .i64 k0,.int .i64 m0]]):=af (by rw[←NV];exact(HS2.out.quiet hb4).alloc _ _);clear hb4 HS2;have q0:=fH.out.cells 0 rfl
 go_wp2_with fail
 try simp only[yu,WB,NV]
 refine(sQ _ b _ (HB.out.up fH.out.below)).mono ?_;rw[Bh.out];rintro e w5 ⟨v5,rfl,s5⟩;have S5:=fH.out.call s5;clear s5 fH q0;obtain⟨A5,d5,rfl,-⟩:=S5.uj 6 rfl;have dX:=af S5;clear S5;have q0:=dX.out.cells 0 rfl
 go_wp2_with fail
 refine(Jf _ b _ (HB.out.up dX.out.below)).mono ?_;rw[HAA.out];rintro e w6 ⟨v6,rfl,s6⟩;have S6:=dX.out.call s6;clear s6 dX q0;obtain⟨A6,d6,rfl,hra⟩:=S6.rdA 7 rfl;have HRA:=af hra;have jB:=af S6;clear S6 hra;simp only[id];have q0:=jB.out.cells 0 rfl
 go_wp2_with fail
 refine(lK _ b.order st _ (Ed.out.up jB.out.below)).mono ?_;rw[HMY.out];rintro e w7 ⟨v7,rfl,s7⟩;have S7:=jB.out.call s7;clear s7 jB q0;obtain⟨A7,d7,rfl,-⟩:=S7.uj 8 rfl;have je:=af S7;clear S7;simp only[id];have q0:=je.out.cells 0 rfl;have q1:=je.out.cells 1 rfl;have q6:=je.out.cells 3 rfl;have f1:=je.out.free 1 rfl
 cases oA with
 |none=>
  have hk0:k0=0:=HK0.out;have hm0:m0=0:=CQ.out;have yt:bo=false:=HBO.out;subst hk0 hm0 yt
  by_cases hf:s.data.toList=kC
  ·have hW:=hf;clear hf;have hpb:=HPB.out;have hans:=Vz.out;rw[hW,LZ bG.out,HAA.out] at hpb hans
   simp only at hpb hans
   have HX:=Bx.mk hpb;obtain⟨jI,VA⟩:∃y,pb.order.start=y:=⟨_,rfl⟩;obtain⟨xt,hxt⟩:∃y,pb.state=y:=⟨_,rfl⟩;have Uh:=Bx.mk VA;have Ui:=Bx.mk hxt;have b0:s.toList=[102,105,110,105,115,104]:=by rw[Lib.toList_data,hW];rfl
   obtain⟨al,hal⟩:∃x,aa.length=x:=⟨_,rfl⟩;have wB:=af hal;rw[hal] at hlen hans;have aaA:Hid (Zp w7 w7.heap.size A6 al d6 aa):=af (by rw[←hal];exact je.out.Xq 7 rfl);have HA:=Bx.mk hans.symm;rw[hal];clear hal hpb hans hW VA hxt
   by_cases h0:al=0
   ·subst h0;have HRN:Bx (gY b []=(b,0)):=Bx.mk (Bz bG.out);have hx:b=pb:=by have:=HX.out;rw[List.length_eq_zero_iff.1 wB.out,HRN.out] at this;exact this
    subst hx;have fP:=af ((je.out.fF 1 rfl (.int .i64 os) (.slice A1 n1 c1) (.slice A2 n2 c2) (.slice A3 n3 c3) (.int .i64 st)).pick [2,1] (by decide) rfl rfl);go_wp2;have z0:=fP.out.cells 1 rfl;refine bodyPost_ret (v:=.tuple #[.agg #[.int .i64 os,.slice A1 n1 c1,.slice A2 n2 c2,.slice A3 n3 c3,.int .i64 st],.string ⟨#[110,111,110,101]⟩]) (by simp[results,Tryz.results10,go_sem,z0]) rfl ⟨.agg #[.int .i64 os,.slice A1 n1 c1,.slice A2 n2 c2,.slice A3 n3 c3,.int .i64 st],by rw[HA.out]<;>rfl,fP.out.pick [0] (by decide) rfl rfl⟩
   have h0i:((al:Int) == 0)=false:=beq_false_of_ne (by omega);have HA2:Bx (ans=⟨okW.toArray⟩):=Bx.mk (by rw[HA.out,if_neg h0]);clear h0 HA;have HA:=HA2
   go_wp2_with fail
   refine(Jo _ b A6 al d6 aa _ (HB.out.up je.out.below) aaA.out HWF.out).mono ?_;rw[HX.out];rintro e w8 ⟨v8,rfl,s8⟩;obtain⟨X1,i1,j1,X2,i2,j2,X3,i3,j3,hv⟩:=s8.gU 0 rfl;rw[Uh.out,Ui.out] at hv;subst hv;obtain⟨g9,WC⟩:∃y,w8.heap.size=y:=⟨_,rfl⟩;have fP:Hid (St w (w8.alloc (.cells #[.int .i64 jI,.slice X1 i1 j1,.slice X2 i2 j2,.slice X3 i3 j3,.int .i64 xt] 28)) [ah (w.heap.size+1) 28 #[.int .i64 0,.slice none 0 0,.slice none 0 0,.slice none 0 0,.int .i64 0],aI (.agg #[.int .i64 jI,.slice X1 i1 j1,.slice X2 i2 j2,.slice X3 i3 j3,.int .i64 xt]) pb,ah g9 28 #[.int .i64 jI,.slice X1 i1 j1,.slice X2 i2 j2,.slice X3 i3 j3,.int .i64 xt]]):=af (by rw[←WC];exact((je.out.call s8).alloc _ _).pick [1,9,10] (by decide) rfl rfl);clear s8 je q0 q1 q6 f1;have q1:=fP.out.cells 0 rfl;have q9:=fP.out.cells 2 rfl;have f1:=fP.out.free 0 rfl;have BU:=af ((fP.out.fF 0 rfl (.int .i64 jI) (.slice X1 i1 j1) (.slice X2 i2 j2) (.slice X3 i3 j3) (.int .i64 xt)).pick [1,0] (by decide) rfl rfl);go_wp2;have z0:=BU.out.cells 1 rfl;refine bodyPost_ret (v:=.tuple #[.agg #[.int .i64 jI,.slice X1 i1 j1,.slice X2 i2 j2,.slice X3 i3 j3,.int .i64 xt],.string ⟨#[111,107]⟩]) (by simp[results,Tryz.results10,go_sem,z0]) rfl ⟨.agg #[.int .i64 jI,.slice X1 i1 j1,.slice X2 i2 j2,.slice X3 i3 j3,.int .i64 xt],by rw[HA.out]<;>rfl,BU.out.pick [0] (by decide) rfl rfl⟩
  have hpb:=HPB.out;have hans:=Vz.out;rw[L6 bG.out HR.out hf] at hpb hans
  simp only at hpb hans
  subst hpb
  by_cases h0:s.data.toList=Af
  ·have hW:=h0;clear h0 hf;have HA:Bx (ans=⟨(gK sn).toArray⟩):=Bx.mk (by rw[←hans,hW];unfold rE;rw[if_pos rfl,aec.out]);have b0:s.toList=[115,116,97,116,101]:=by rw[Lib.toList_data,hW];rfl
   clear hW hans;have nJ:=af (je.out.pick [0,1,2,3,4] (by decide) rfl rfl)
   go_upto_region 18 with(fail)
   clear q0 q1 q6 f1 je b0
   refine kG (σ:=Unit)
    (fun _ i=>match i with
     |0=>.agg #[.int .i64 os,.slice A1 n1 c1,.slice A2 n2 c2,.slice A3 n3 c3,.int .i64 st]
     |1=>.pointer (some ⟨w.heap.size,4,none⟩)
     |2=>.int .i64 st
     |3=>.string ⟨(gK sn).toArray⟩
     |5=>.string ⟨(gK sn).toArray⟩
     |_=>undef)
    (fun D _ wx=>Sn w wx fun i=>match i with
     |0=>some (ah w.heap.size 28 #[.int .i64 os,.slice G gn gc,.slice G' n' c',.slice D' dn dc,.int .i64 st])
     |1=>some (ah (w.heap.size+1) 28 (if D 4=true then #[.int .i64 os,.slice A1 n1 c1,.slice A2 n2 c2,.slice A3 n3 c3,.int .i64 st] else #[.int .i64 0,.slice none 0 0,.slice none 0 0,.slice none 0 0,.int .i64 0]))
     |2=>some (aI (.agg #[.int .i64 os,.slice A1 n1 c1,.slice A2 n2 c2,.slice A3 n3 c3,.int .i64 st]) b)
     |3=>some (ah g6 28 #[.int .i64 os,.slice A1 n1 c1,.slice A2 n2 c2,.slice A3 n3 c3,.int .i64 st])
     |4=>some (ah g7 26 #[.int .i64 st,.slice G gn gc,.slice G' n' c'])
     |_=>none)
    () ?_ ?_ ?_
   ·intro D hD;refine((Sn.dN nJ.out).quiet ((ai _ _).drew)).congr fun i=>?_
    match i with
    |0=>rfl
    |1=>simp only[hD 4 (by decide)];rfl
    |2 | 3 | 4=>rfl
    |q+5=>rfl
   ·refine Cs (fun D _ wx hR _ hd _ _ hs K hK=>?_) ?_
    ·have e6:=hs.o 6 (.pointer (some ⟨g6,0,none⟩));clear hs;have qk:=(hR.blk 3 rfl).cell;go_simp;exact hK () wx sv hR
    refine Cs (fun D _ wx hR _ hd _ _ hs K hK=>?_) ?_
    ·have e2:=hs.o 2 (.pointer (some ⟨w.heap.size,0,none⟩));clear hs;go_simp;exact hK () wx sv hR
    refine Cs (fun D _ wx hR _ hd _ _ hs K hK=>?_) ?_
    ·have e88:=hs.v 1 88 hd;clear hs;have qk:=(hR.blk 0 rfl).cell;go_simp;exact hK () wx sv hR
    refine Cs (fun D _ wx hR _ hd _ _ hs K hK=>?_) ?_
    ·have e89:=hs.v 2 89 hd;have g89:=aX e89;clear hs;have hse:=HSE.out;go_simp;refine(jF sn zB.out _).mono ?_;rintro e2 w2 ⟨rfl,hb2⟩;exact hK () w2 sv (hR.quiet hb2)
    refine Cs (fun D _ wx hR (hDi:D 4=false) hd _ _ hs K hK=>?_) ?_
    ·have e4:=hs.o 4 (.pointer (some ⟨(w.heap.size+1),0,none⟩));have e87:=hs.v 0 87 hd;clear hs;have kb:fU wx (w.heap.size+1) 28 #[.int .i64 0,.slice none 0 0,.slice none 0 0,.slice none 0 0,.int .i64 0]:=hR.blk 1 (by simp only[hDi]<;>rfl);have f0:=kb.frozen;have qk:=kb.cell;go_simp
     exact hK () _ sv ((hR.fF 1 (by simp only[hDi];rfl) _ _ _ _ _).congr
      (fun i=>by
       match i with
       |0 | 1 | 2 | 3 | 4=>rfl
       |q+5=>exact(if_neg (show¬(q+5=1) by omega)).symm))
    refine Cs (fun D _ wx hR _ hd _ _ hs K hK=>?_) ?_
    ·have e90:=hs.v 3 90 hd;clear hs;go_simp;exact hK () wx sv hR
    exact aj.nil
   ·intro D _ wx hR hD;simp only[eH,Act.put,aO,aU,aW];have fP:Hid (St w wx [aI (.agg #[.int .i64 os,.slice A1 n1 c1,.slice A2 n2 c2,.slice A3 n3 c3,.int .i64 st]) b,ah (w.heap.size+1) 28 #[.int .i64 os,.slice A1 n1 c1,.slice A2 n2 c2,.slice A3 n3 c3,.int .i64 st]]):=af (hR.eG [2,1] (by decide) (by simp only[List.map,hD 4 (by decide)]<;>rfl));clear hR hD;have z0:=fP.out.cells 1 rfl;go_wp2;refine bodyPost_ret (v:=.tuple #[.agg #[.int .i64 os,.slice A1 n1 c1,.slice A2 n2 c2,.slice A3 n3 c3,.int .i64 st],.string ⟨(gK sn).toArray⟩]) (by simp[results,Tryz.results10,go_sem,z0]) rfl ⟨.agg #[.int .i64 os,.slice A1 n1 c1,.slice A2 n2 c2,.slice A3 n3 c3,.int .i64 st],by rw[HA.out]<;>rfl,fP.out.pick [0] (by decide) rfl rfl⟩
  by_cases h1:s.data.toList=Hf
  ·have hW:=h1;clear h1 h0 hf;have HA:Bx (ans=⟨(rF b.order).toArray⟩):=Bx.mk (by rw[←hans,hW];unfold rE;rw[if_neg (by decide),if_pos rfl]);have b0:s.toList=[116,97,115,107]:=by rw[Lib.toList_data,hW];rfl
   clear hW hans;have nJ:=af (je.out.pick [0,1,2,3,4] (by decide) rfl rfl)
   go_upto_region 20 with(fail)
   clear q0 q1 q6 f1 je b0
   refine kG (σ:=Unit)
    (fun _ i=>match i with
     |0=>.agg #[.int .i64 os,.slice A1 n1 c1,.slice A2 n2 c2,.slice A3 n3 c3,.int .i64 st]
     |1=>.pointer (some ⟨w.heap.size,0,none⟩)
     |2=>.agg #[.int .i64 os,.slice G gn gc,.slice G' n' c']
     |3=>.string ⟨(rF b.order).toArray⟩
     |5=>.string ⟨(rF b.order).toArray⟩
     |_=>undef)
    (fun D _ wx=>Sn w wx fun i=>match i with
     |0=>some (ah w.heap.size 28 #[.int .i64 os,.slice G gn gc,.slice G' n' c',.slice D' dn dc,.int .i64 st])
     |1=>some (ah (w.heap.size+1) 28 (if D 4=true then #[.int .i64 os,.slice A1 n1 c1,.slice A2 n2 c2,.slice A3 n3 c3,.int .i64 st] else #[.int .i64 0,.slice none 0 0,.slice none 0 0,.slice none 0 0,.int .i64 0]))
     |2=>some (aI (.agg #[.int .i64 os,.slice A1 n1 c1,.slice A2 n2 c2,.slice A3 n3 c3,.int .i64 st]) b)
     |3=>some (ah g6 28 #[.int .i64 os,.slice A1 n1 c1,.slice A2 n2 c2,.slice A3 n3 c3,.int .i64 st])
     |4=>some (ah g7 26 #[.int .i64 st,.slice G gn gc,.slice G' n' c'])
     |_=>none)
    () ?_ ?_ ?_
   ·intro D hD;refine((Sn.dN nJ.out).quiet ((ai _ _).drew)).congr fun i=>?_
    match i with
    |0=>rfl
    |1=>simp only[hD 4 (by decide)];rfl
    |2 | 3 | 4=>rfl
    |q+5=>rfl
   ·refine Cs (fun D _ wx hR _ hd _ _ hs K hK=>?_) ?_
    ·have e6:=hs.o 6 (.pointer (some ⟨g6,0,none⟩));clear hs;have qk:=(hR.blk 3 rfl).cell;go_simp;exact hK () wx sv hR
    refine Cs (fun D _ wx hR _ hd _ _ hs K hK=>?_) ?_
    ·have e2:=hs.o 2 (.pointer (some ⟨w.heap.size,0,none⟩));clear hs;go_simp;exact hK () wx sv hR
    refine Cs (fun D _ wx hR _ hd _ _ hs K hK=>?_) ?_
    ·have e95:=hs.v 1 95 hd;clear hs;have qk:=(hR.blk 0 rfl).cell;go_simp;exact hK () wx sv hR
    refine Cs (fun D _ wx hR _ hd _ _ hs K hK=>?_) ?_
    ·have e96:=hs.v 2 96 hd;have g96:=aX e96;clear hs;go_simp;refine(FO _ b.order _ (Ed.out.up hR.below) acI.out).mono ?_;rintro e2 w2 ⟨rfl,hb2⟩;exact hK () w2 sv (hR.quiet hb2)
    refine Cs (fun D _ wx hR (hDi:D 4=false) hd _ _ hs K hK=>?_) ?_
    ·have e4:=hs.o 4 (.pointer (some ⟨(w.heap.size+1),0,none⟩));have e94:=hs.v 0 94 hd;clear hs;have kb:fU wx (w.heap.size+1) 28 #[.int .i64 0,.slice none 0 0,.slice none 0 0,.slice none 0 0,.int .i64 0]:=hR.blk 1 (by simp only[hDi]<;>rfl);have f0:=kb.frozen;have qk:=kb.cell;go_simp
     exact hK () _ sv ((hR.fF 1 (by simp only[hDi];rfl) _ _ _ _ _).congr
      (fun i=>by
       match i with
       |0 | 1 | 2 | 3 | 4=>rfl
       |q+5=>exact(if_neg (show¬(q+5=1) by omega)).symm))
    refine Cs (fun D _ wx hR _ hd _ _ hs K hK=>?_) ?_
    ·have e97:=hs.v 3 97 hd;clear hs;go_simp;exact hK () wx sv hR
    exact aj.nil
   ·intro D _ wx hR hD;simp only[eH,Act.put,aO,aU,aW];have fP:Hid (St w wx [aI (.agg #[.int .i64 os,.slice A1 n1 c1,.slice A2 n2 c2,.slice A3 n3 c3,.int .i64 st]) b,ah (w.heap.size+1) 28 #[.int .i64 os,.slice A1 n1 c1,.slice A2 n2 c2,.slice A3 n3 c3,.int .i64 st]]):=af (hR.eG [2,1] (by decide) (by simp only[List.map,hD 4 (by decide)]<;>rfl));clear hR hD;have z0:=fP.out.cells 1 rfl;go_wp2;refine bodyPost_ret (v:=.tuple #[.agg #[.int .i64 os,.slice A1 n1 c1,.slice A2 n2 c2,.slice A3 n3 c3,.int .i64 st],.string ⟨(rF b.order).toArray⟩]) (by simp[results,Tryz.results10,go_sem,z0]) rfl ⟨.agg #[.int .i64 os,.slice A1 n1 c1,.slice A2 n2 c2,.slice A3 n3 c3,.int .i64 st],by rw[HA.out]<;>rfl,fP.out.pick [0] (by decide) rfl rfl⟩
  by_cases h2:s.data.toList=Hg
  ·have hW:=h2;clear h2 h0 h1 hf;have HA:Bx (ans=⟨(jm dn).toArray⟩):=Bx.mk (by rw[←hans,hW];unfold rE;rw[if_neg (by decide),if_neg (by decide),if_pos rfl,gy.out]);have b0:s.toList=[100,111,110,101]:=by rw[Lib.toList_data,hW];rfl
   clear hW hans;have nJ:=af (je.out.pick [0,1,2,3,4] (by decide) rfl rfl)
   go_upto_region 22 with(fail)
   clear q0 q1 q6 f1 je b0
   refine kG (σ:=Unit)
    (fun _ i=>match i with
     |0=>.agg #[.int .i64 os,.slice A1 n1 c1,.slice A2 n2 c2,.slice A3 n3 c3,.int .i64 st]
     |1=>.pointer (some ⟨w.heap.size,3,none⟩)
     |2=>.slice D' dn dc
     |3=>.int .i64 (dn:Int)
     |4=>.string ⟨(jm dn).toArray⟩
     |6=>.string ⟨(jm dn).toArray⟩
     |_=>undef)
    (fun D _ wx=>Sn w wx fun i=>match i with
     |0=>some (ah w.heap.size 28 #[.int .i64 os,.slice G gn gc,.slice G' n' c',.slice D' dn dc,.int .i64 st])
     |1=>some (ah (w.heap.size+1) 28 (if D 5=true then #[.int .i64 os,.slice A1 n1 c1,.slice A2 n2 c2,.slice A3 n3 c3,.int .i64 st] else #[.int .i64 0,.slice none 0 0,.slice none 0 0,.slice none 0 0,.int .i64 0]))
     |2=>some (aI (.agg #[.int .i64 os,.slice A1 n1 c1,.slice A2 n2 c2,.slice A3 n3 c3,.int .i64 st]) b)
     |3=>some (ah g6 28 #[.int .i64 os,.slice A1 n1 c1,.slice A2 n2 c2,.slice A3 n3 c3,.int .i64 st])
     |4=>some (ah g7 26 #[.int .i64 st,.slice G gn gc,.slice G' n' c'])
     |_=>none)
    () ?_ ?_ ?_
   ·intro D hD;refine((Sn.dN nJ.out).quiet ((ai _ _).drew)).congr fun i=>?_
    match i with
    |0=>rfl
    |1=>simp only[hD 5 (by decide)];rfl
    |2 | 3 | 4=>rfl
    |q+5=>rfl
   ·refine Cs (fun D _ wx hR _ hd _ _ hs K hK=>?_) ?_
    ·have e6:=hs.o 6 (.pointer (some ⟨g6,0,none⟩));clear hs;have qk:=(hR.blk 3 rfl).cell;go_simp;exact hK () wx sv hR
    refine Cs (fun D _ wx hR _ hd _ _ hs K hK=>?_) ?_
    ·have e2:=hs.o 2 (.pointer (some ⟨w.heap.size,0,none⟩));clear hs;go_simp;exact hK () wx sv hR
    refine Cs (fun D _ wx hR _ hd _ _ hs K hK=>?_) ?_
    ·have afB:=hs.v 1 102 hd;clear hs;have qk:=(hR.blk 0 rfl).cell;go_simp;exact hK () wx sv hR
    refine Cs (fun D _ wx hR _ hd _ _ hs K hK=>?_) ?_
    ·have aed:=hs.v 2 103 hd;have afC:=aX aed;clear hs;go_simp;exact hK () wx sv hR
    refine Cs (fun D _ wx hR _ hd _ _ hs K hK=>?_) ?_
    ·have aee:=hs.v 3 104 hd;have afD:=aX aee;clear hs;go_simp;refine(kZ dn HDB.out _).mono ?_;rintro e2 w2 ⟨rfl,hb2⟩;exact hK () w2 sv (hR.quiet hb2)
    refine Cs (fun D _ wx hR (hDi:D 5=false) hd _ _ hs K hK=>?_) ?_
    ·have e4:=hs.o 4 (.pointer (some ⟨(w.heap.size+1),0,none⟩));have afE:=hs.v 0 101 hd;clear hs;have kb:fU wx (w.heap.size+1) 28 #[.int .i64 0,.slice none 0 0,.slice none 0 0,.slice none 0 0,.int .i64 0]:=hR.blk 1 (by simp only[hDi]<;>rfl);have f0:=kb.frozen;have qk:=kb.cell;go_simp
     exact hK () _ sv ((hR.fF 1 (by simp only[hDi];rfl) _ _ _ _ _).congr
      (fun i=>by
       match i with
       |0 | 1 | 2 | 3 | 4=>rfl
       |q+5=>exact(if_neg (show¬(q+5=1) by omega)).symm))
    refine Cs (fun D _ wx hR _ hd _ _ hs K hK=>?_) ?_
    ·have afF:=hs.v 4 105 hd;clear hs;go_simp;exact hK () wx sv hR
    exact aj.nil
   ·intro D _ wx hR hD;simp only[eH,Act.put,aO,aU,aW];have fP:Hid (St w wx [aI (.agg #[.int .i64 os,.slice A1 n1 c1,.slice A2 n2 c2,.slice A3 n3 c3,.int .i64 st]) b,ah (w.heap.size+1) 28 #[.int .i64 os,.slice A1 n1 c1,.slice A2 n2 c2,.slice A3 n3 c3,.int .i64 st]]):=af (hR.eG [2,1] (by decide) (by simp only[List.map,hD 5 (by decide)]<;>rfl));clear hR hD;have z0:=fP.out.cells 1 rfl;go_wp2;refine bodyPost_ret (v:=.tuple #[.agg #[.int .i64 os,.slice A1 n1 c1,.slice A2 n2 c2,.slice A3 n3 c3,.int .i64 st],.string ⟨(jm dn).toArray⟩]) (by simp[results,Tryz.results10,go_sem,z0]) rfl ⟨.agg #[.int .i64 os,.slice A1 n1 c1,.slice A2 n2 c2,.slice A3 n3 c3,.int .i64 st],by rw[HA.out]<;>rfl,fP.out.pick [0] (by decide) rfl rfl⟩
  by_cases h3:s.data.toList=Sv
  ·have hW:=h3;clear h3 h0 h1 h2 hf;have HAM:Bx (ans=⟨(FP xs).toArray⟩):=Bx.mk (by rw[←hans,hW];unfold rE;rw[if_neg (by decide),if_neg (by decide),if_neg (by decide),if_pos rfl,kK.out,HMY.out]);have b0:s.toList=[109,97,121]:=by rw[Lib.toList_data,hW];rfl
   clear hW hans;obtain⟨xl,hxl⟩:∃x,xs.length=x:=⟨_,rfl⟩;have Vy:=af hxl;rw[hxl] at aeb;have uo:Hid (St w w7 [ah w.heap.size 28 #[.int .i64 os,.slice G gn gc,.slice G' n' c',.slice D' dn dc,.int .i64 st],ah (w.heap.size+1) 28 #[.int .i64 0,.slice none 0 0,.slice none 0 0,.slice none 0 0,.int .i64 0],aI (.agg #[.int .i64 os,.slice A1 n1 c1,.slice A2 n2 c2,.slice A3 n3 c3,.int .i64 st]) b,ah g6 28 #[.int .i64 os,.slice A1 n1 c1,.slice A2 n2 c2,.slice A3 n3 c3,.int .i64 st],ax (.slice A7 xl d7) xs]):=af (by rw[←hxl];exact je.out.pick [0,1,2,3,8] (by decide) rfl rfl);rw[hxl];clear hxl
   by_cases h0:xl=0
   ·have HA:Bx (ans=⟨tX.toArray⟩):=Bx.mk (by rw[HAM.out,List.length_eq_zero_iff.1 (Vy.out.trans h0)];rfl);have h0i:((xl:Int) == 0)=true:=by rw[h0];rfl
    have fP:=af ((je.out.fF 1 rfl (.int .i64 os) (.slice A1 n1 c1) (.slice A2 n2 c2) (.slice A3 n3 c3) (.int .i64 st)).pick [2,1] (by decide) rfl rfl);go_wp2;have z0:=fP.out.cells 1 rfl;refine bodyPost_ret (v:=.tuple #[.agg #[.int .i64 os,.slice A1 n1 c1,.slice A2 n2 c2,.slice A3 n3 c3,.int .i64 st],.string ⟨#[110,111,110,101]⟩]) (by simp[results,Tryz.results10,go_sem,z0]) rfl ⟨.agg #[.int .i64 os,.slice A1 n1 c1,.slice A2 n2 c2,.slice A3 n3 c3,.int .i64 st],by rw[HA.out]<;>rfl,fP.out.pick [0] (by decide) rfl rfl⟩
   have h0i:((xl:Int) == 0)=false:=beq_false_of_ne (by omega);have h0l:0<xl:=by omega
   clear h0 je;obtain⟨gm,rfl⟩:=Ah (uo.out.acH 4 rfl Vy.out) (by omega);obtain⟨x0,hx0⟩:∃x,xs[0]? =some x:=⟨_,bH (by rw[Vy.out];exact h0l)⟩;have r0:=(uo.out.acG 4 rfl Vy.out 0 x0 hx0);have acK:=HXB.out x0 (bT hx0);have WH:=af (Hl hx0);obtain⟨m0,rfl⟩:=bC acK.1;have HMB:Hid (m0<100000000000):=af (by omega);clear hx0 acK
   go_wp2_with fail
   refine(kZ m0 HMB.out _).mono ?_;rintro e w8 ⟨rfl,hb8⟩;have nJ:=af (uo.out.quiet hb8);clear hb8 uo q0 q1 q6 f1 r0;go_wp2
   go_loopw [18,19] (fun a i wr=>∃(k:Nat) (X:ByteArray),1≤k∧k≤xl∧i= .int .i64 (k:Int)∧a= .string X∧Bx (X=⟨(qV (xs.take k)).toArray⟩)∧St w wr [ah w.heap.size 28 #[.int .i64 os,.slice G gn gc,.slice G' n' c',.slice D' dn dc,.int .i64 st],ah (w.heap.size+1) 28 #[.int .i64 0,.slice none 0 0,.slice none 0 0,.slice none 0 0,.int .i64 0],aI (.agg #[.int .i64 os,.slice A1 n1 c1,.slice A2 n2 c2,.slice A3 n3 c3,.int .i64 st]) b,ah g6 28 #[.int .i64 os,.slice A1 n1 c1,.slice A2 n2 c2,.slice A3 n3 c3,.int .i64 st],ax (.slice (some ⟨gm,0,none⟩) xl d7) xs]) (fun _ i _=>xl-(intOf i).toNat)
   case atStart=>exact⟨1,_,by omega,by omega,rfl,rfl,Bx.mk (by rw[WH.out];rfl),nJ.out⟩
   case round=>
    clear nJ;obtain⟨k,X,hk1,hk,rfl,rfl,HX,S⟩:=hrel;have HS:=af S;clear S
    by_cases hlt:k<xl
    ·obtain⟨x,hx⟩:∃x,xs[k]? =some x:=⟨_,bH (by rw[Vy.out];exact hlt)⟩;have r0:=(HS.out.acG 4 rfl Vy.out k x hx);have hxb:=HXB.out x (bT hx);obtain⟨kk,rfl⟩:∃kk,k=kk+1:=⟨k-1,by omega⟩;have iO:=af (Ho hx);obtain⟨m,rfl⟩:=bC hxb.1;have aef:Hid (m<100000000000):=af (by omega)
     have hXs:X.size≤100:=by
      have h1:=L8 (xs:=xs.take (kk+1)) (fun x hx=>HXB.out x (List.mem_of_mem_take hx));rw[HX.out]
      show(qV (xs.take (kk+1))).toArray.size≤_
      rw[List.size_toArray];simp only[List.length_take] at h1;omega
     have hds:(⟨(jm m).toArray⟩:ByteArray).size≤100:=by
      show(jm m).toArray.size≤_
      have:=rG 1 m (by omega)
      rw[List.size_toArray];omega
     have Bf:=af hds;have hc1:¬9223372036854775807<X.size+1:=by omega
     have hc2:¬9223372036854775807<X.size+1+(⟨(jm m).toArray⟩:ByteArray).size:=by omega
     have HX2:Bx (X++⟨#[44]⟩++⟨(jm m).toArray⟩=⟨(qV (xs.take (kk+2))).toArray⟩):=Bx.mk (by rw[HX.out,iO.out,show(⟨#[44]⟩:ByteArray)=⟨[44].toArray⟩ from rfl,iV,iV,List.append_assoc];rfl);clear hx hxb hds hXs
     go_wp2_with fail
     refine(kZ m aef.out _).mono ?_;rintro e w9 ⟨rfl,hb9⟩;have fP:=af (HS.out.quiet hb9);clear hb9 r0;go_wp2
     go_roundw
     case rel=>exact⟨kk+2,_,by omega,by omega,by go_num,rfl,HX2,fP.out⟩
     case measure=>simp[intOf];omega
    ·obtain rfl:k=xl:=by omega
     have HA:Bx (ans=X):=Bx.mk (by rw[HAM.out,HX.out,gW (by rw[Vy.out];omega),L9 (by intro h;have:=Vy.out;rw[h] at this;simp at this;omega)]);have q1:=HS.out.cells 1 rfl;have q6:=HS.out.cells 3 rfl;have f1:=HS.out.free 1 rfl;have fP:=af ((HS.out.fF 1 rfl (.int .i64 os) (.slice A1 n1 c1) (.slice A2 n2 c2) (.slice A3 n3 c3) (.int .i64 st)).pick [2,1] (by decide) rfl rfl);go_wp2;have z0:=fP.out.cells 1 rfl;refine bodyPost_ret (v:=.tuple #[.agg #[.int .i64 os,.slice A1 n1 c1,.slice A2 n2 c2,.slice A3 n3 c3,.int .i64 st],.string X]) (by simp[results,Tryz.results10,go_sem,z0]) rfl ⟨.agg #[.int .i64 os,.slice A1 n1 c1,.slice A2 n2 c2,.slice A3 n3 c3,.int .i64 st],by rw[HA.out]<;>rfl,fP.out.pick [0] (by decide) rfl rfl⟩
  by_cases h4:s.data.toList=Hq
  ·have hW:=h4;clear h4 h0 h1 h2 h3 hf;have b0:s.toList=[108,101,102,116]:=by rw[Lib.toList_data,hW];rfl
   have wB:Bx (ans=⟨(QD ro).toArray⟩):=Bx.mk (by rw[←hans,hW];unfold rE;rw[if_neg (by decide),if_neg (by decide),if_neg (by decide),if_neg (by decide),if_pos rfl,Bh.out];cases ro<;>rfl);clear hW hans
   cases ro with
   |none=>
    have HA:Bx (ans=⟨tX.toArray⟩):=wB;simp only[Option.isSome_none];have fP:=af ((je.out.fF 1 rfl (.int .i64 os) (.slice A1 n1 c1) (.slice A2 n2 c2) (.slice A3 n3 c3) (.int .i64 st)).pick [2,1] (by decide) rfl rfl);go_wp2;have z0:=fP.out.cells 1 rfl;refine bodyPost_ret (v:=.tuple #[.agg #[.int .i64 os,.slice A1 n1 c1,.slice A2 n2 c2,.slice A3 n3 c3,.int .i64 st],.string ⟨#[110,111,110,101]⟩]) (by simp[results,Tryz.results10,go_sem,z0]) rfl ⟨.agg #[.int .i64 os,.slice A1 n1 c1,.slice A2 n2 c2,.slice A3 n3 c3,.int .i64 st],by rw[HA.out]<;>rfl,fP.out.pick [0] (by decide) rfl rfl⟩
   |some p=>
    obtain⟨pn,hpn⟩:∃x,p.length=x:=⟨_,rfl⟩;have HA:Bx (ans=⟨(jm pn).toArray⟩):=Bx.mk (by rw[wB.out,QD,hpn]);have HPB:Hid (pn<100000000000):=af (by have:=yR b;rw[Bh.out] at this;simp at this;omega);simp only[Option.isSome_some,Option.getD_some] at je ⊢
    rw[hpn];clear hpn wB;have nJ:=af (je.out.pick [0,1,2,3,4] (by decide) rfl rfl)
    go_upto_region 33 with(fail)
    clear q0 q1 q6 f1 je b0
    refine kG (σ:=Unit)
     (fun _ i=>match i with
      |0=>.agg #[.int .i64 os,.slice A1 n1 c1,.slice A2 n2 c2,.slice A3 n3 c3,.int .i64 st]
      |1=>.slice A5 pn d5
      |2=>.int .i64 (pn:Int)
      |3=>.string ⟨(jm pn).toArray⟩
      |5=>.string ⟨(jm pn).toArray⟩
      |_=>undef)
     (fun D _ wx=>Sn w wx fun i=>match i with
      |0=>some (ah w.heap.size 28 #[.int .i64 os,.slice G gn gc,.slice G' n' c',.slice D' dn dc,.int .i64 st])
      |1=>some (ah (w.heap.size+1) 28 (if D 4=true then #[.int .i64 os,.slice A1 n1 c1,.slice A2 n2 c2,.slice A3 n3 c3,.int .i64 st] else #[.int .i64 0,.slice none 0 0,.slice none 0 0,.slice none 0 0,.int .i64 0]))
      |2=>some (aI (.agg #[.int .i64 os,.slice A1 n1 c1,.slice A2 n2 c2,.slice A3 n3 c3,.int .i64 st]) b)
      |3=>some (ah g6 28 #[.int .i64 os,.slice A1 n1 c1,.slice A2 n2 c2,.slice A3 n3 c3,.int .i64 st])
      |4=>some (ah g7 26 #[.int .i64 st,.slice G gn gc,.slice G' n' c'])
      |_=>none)
     () ?_ ?_ ?_
    ·intro D hD;refine((Sn.dN nJ.out).quiet ((ai _ _).drew)).congr fun i=>?_
     match i with
     |0=>rfl
     |1=>simp only[hD 4 (by decide)];rfl
     |2 | 3 | 4=>rfl
     |q+5=>rfl
    ·refine Cs (fun D _ wx hR _ hd _ _ hs K hK=>?_) ?_
     ·have e6:=hs.o 6 (.pointer (some ⟨g6,0,none⟩));clear hs;have qk:=(hR.blk 3 rfl).cell;go_simp;exact hK () wx sv hR
     refine Cs (fun D _ wx hR _ hd _ _ hs K hK=>?_) ?_
     ·have e10:=hs.o 10 (.slice A5 pn d5);clear hs;go_simp;exact hK () wx sv hR
     refine Cs (fun D _ wx hR _ hd _ _ hs K hK=>?_) ?_
     ·have aeg:=hs.v 1 150 hd;have afG:=aX aeg;clear hs;go_simp;exact hK () wx sv hR
     refine Cs (fun D _ wx hR _ hd _ _ hs K hK=>?_) ?_
     ·have aeh:=hs.v 2 151 hd;have afH:=aX aeh;clear hs;go_simp;refine(kZ pn HPB.out _).mono ?_;rintro e2 w2 ⟨rfl,hb2⟩;exact hK () w2 sv (hR.quiet hb2)
     refine Cs (fun D _ wx hR (hDi:D 4=false) hd _ _ hs K hK=>?_) ?_
     ·have e4:=hs.o 4 (.pointer (some ⟨(w.heap.size+1),0,none⟩));have afI:=hs.v 0 149 hd;clear hs;have kb:fU wx (w.heap.size+1) 28 #[.int .i64 0,.slice none 0 0,.slice none 0 0,.slice none 0 0,.int .i64 0]:=hR.blk 1 (by simp only[hDi]<;>rfl);have f0:=kb.frozen;have qk:=kb.cell;go_simp
      exact hK () _ sv ((hR.fF 1 (by simp only[hDi];rfl) _ _ _ _ _).congr
       (fun i=>by
        match i with
        |0 | 1 | 2 | 3 | 4=>rfl
        |q+5=>exact(if_neg (show¬(q+5=1) by omega)).symm))
     refine Cs (fun D _ wx hR _ hd _ _ hs K hK=>?_) ?_
     ·have e152:=hs.v 3 152 hd;clear hs;go_simp;exact hK () wx sv hR
     exact aj.nil
    ·intro D _ wx hR hD;simp only[eH,Act.put,aO,aU,aW];have fP:Hid (St w wx [aI (.agg #[.int .i64 os,.slice A1 n1 c1,.slice A2 n2 c2,.slice A3 n3 c3,.int .i64 st]) b,ah (w.heap.size+1) 28 #[.int .i64 os,.slice A1 n1 c1,.slice A2 n2 c2,.slice A3 n3 c3,.int .i64 st]]):=af (hR.eG [2,1] (by decide) (by simp only[List.map,hD 4 (by decide)]<;>rfl));clear hR hD;have z0:=fP.out.cells 1 rfl;go_wp2;refine bodyPost_ret (v:=.tuple #[.agg #[.int .i64 os,.slice A1 n1 c1,.slice A2 n2 c2,.slice A3 n3 c3,.int .i64 st],.string ⟨(jm pn).toArray⟩]) (by simp[results,Tryz.results10,go_sem,z0]) rfl ⟨.agg #[.int .i64 os,.slice A1 n1 c1,.slice A2 n2 c2,.slice A3 n3 c3,.int .i64 st],by rw[HA.out]<;>rfl,fP.out.pick [0] (by decide) rfl rfl⟩
  by_cases h5:s.data.toList=Aj
  ·have hW:=h5;clear h5 h0 h1 h2 h3 h4 hf;obtain⟨be,hbe⟩:∃x,fA b=x:=⟨_,rfl⟩;have YI:=Bx.mk hbe;have HA:Bx (ans=yQ be ⟨#[121,101,115]⟩):=Bx.mk (by rw[←hans,hW];unfold rE;rw[if_neg (by decide),if_neg (by decide),if_neg (by decide),if_neg (by decide),if_neg (by decide),if_pos rfl,hbe];cases be<;>rfl);have b0:s.toList=[101,110,100,101,100]:=by rw[Lib.toList_data,hW];rfl
   clear hW hans hbe;have nJ:=af (je.out.pick [0,1,2,3,4] (by decide) rfl rfl)
   go_upto_region 35 with(fail)
   clear q0 q1 q6 f1 je b0
   refine kG (σ:=Unit)
    (fun _ i=>match i with
     |0=>.agg #[.int .i64 os,.slice A1 n1 c1,.slice A2 n2 c2,.slice A3 n3 c3,.int .i64 st]
     |1=>.agg #[.int .i64 os,.slice G gn gc,.slice G' n' c',.slice D' dn dc,.int .i64 st]
     |2=>.bool be
     |3=>.string (yQ be ⟨#[121,101,115]⟩)
     |5=>.string (yQ be ⟨#[121,101,115]⟩)
     |_=>undef)
    (fun D _ wx=>Sn w wx fun i=>match i with
     |0=>some (ah w.heap.size 28 #[.int .i64 os,.slice G gn gc,.slice G' n' c',.slice D' dn dc,.int .i64 st])
     |1=>some (ah (w.heap.size+1) 28 (if D 4=true then #[.int .i64 os,.slice A1 n1 c1,.slice A2 n2 c2,.slice A3 n3 c3,.int .i64 st] else #[.int .i64 0,.slice none 0 0,.slice none 0 0,.slice none 0 0,.int .i64 0]))
     |2=>some (aI (.agg #[.int .i64 os,.slice A1 n1 c1,.slice A2 n2 c2,.slice A3 n3 c3,.int .i64 st]) b)
     |3=>some (ah g6 28 #[.int .i64 os,.slice A1 n1 c1,.slice A2 n2 c2,.slice A3 n3 c3,.int .i64 st])
     |4=>some (ah g7 26 #[.int .i64 st,.slice G gn gc,.slice G' n' c'])
     |_=>none)
    () ?_ ?_ ?_
   ·intro D hD;refine((Sn.dN nJ.out).quiet ((ai _ _).drew)).congr fun i=>?_
    match i with
    |0=>rfl
    |1=>simp only[hD 4 (by decide)];rfl
    |2 | 3 | 4=>rfl
    |q+5=>rfl
   ·refine Cs (fun D _ wx hR _ hd _ _ hs K hK=>?_) ?_
    ·have e6:=hs.o 6 (.pointer (some ⟨g6,0,none⟩));clear hs;have qk:=(hR.blk 3 rfl).cell;go_simp;exact hK () wx sv hR
    refine Cs (fun D _ wx hR _ hd _ _ hs K hK=>?_) ?_
    ·have e2:=hs.o 2 (.pointer (some ⟨w.heap.size,0,none⟩));clear hs;have qk:=(hR.blk 0 rfl).cell;go_simp;exact hK () wx sv hR
    refine Cs (fun D _ wx hR _ hd _ _ hs K hK=>?_) ?_
    ·have aei:=hs.v 1 157 hd;have afJ:=aX aei;clear hs;go_simp;refine(uU _ b _ (HB.out.up hR.below)).mono ?_;rw[YI.out];rintro e2 w2 ⟨rfl,hb2⟩;exact hK () w2 sv (hR.quiet hb2)
    refine Cs (fun D _ wx hR _ hd _ _ hs K hK=>?_) ?_
    ·have aej:=hs.v 2 158 hd;have afK:=aX aej;clear hs;go_simp;refine(Bv be ⟨#[121,101,115]⟩ _).mono ?_;rintro e2 w2 ⟨rfl,rfl⟩;exact hK () wx sv hR
    refine Cs (fun D _ wx hR (hDi:D 4=false) hd _ _ hs K hK=>?_) ?_
    ·have e4:=hs.o 4 (.pointer (some ⟨(w.heap.size+1),0,none⟩));have afL:=hs.v 0 156 hd;clear hs;have kb:fU wx (w.heap.size+1) 28 #[.int .i64 0,.slice none 0 0,.slice none 0 0,.slice none 0 0,.int .i64 0]:=hR.blk 1 (by simp only[hDi]<;>rfl);have f0:=kb.frozen;have qk:=kb.cell;go_simp
     exact hK () _ sv ((hR.fF 1 (by simp only[hDi];rfl) _ _ _ _ _).congr
      (fun i=>by
       match i with
       |0 | 1 | 2 | 3 | 4=>rfl
       |q+5=>exact(if_neg (show¬(q+5=1) by omega)).symm))
    refine Cs (fun D _ wx hR _ hd _ _ hs K hK=>?_) ?_
    ·have afM:=hs.v 3 159 hd;clear hs;go_simp;exact hK () wx sv hR
    exact aj.nil
   ·intro D _ wx hR hD;simp only[eH,Act.put,aO,aU,aW];have fP:Hid (St w wx [aI (.agg #[.int .i64 os,.slice A1 n1 c1,.slice A2 n2 c2,.slice A3 n3 c3,.int .i64 st]) b,ah (w.heap.size+1) 28 #[.int .i64 os,.slice A1 n1 c1,.slice A2 n2 c2,.slice A3 n3 c3,.int .i64 st]]):=af (hR.eG [2,1] (by decide) (by simp only[List.map,hD 4 (by decide)]<;>rfl));clear hR hD;have z0:=fP.out.cells 1 rfl;go_wp2;refine bodyPost_ret (v:=.tuple #[.agg #[.int .i64 os,.slice A1 n1 c1,.slice A2 n2 c2,.slice A3 n3 c3,.int .i64 st],.string (yQ be ⟨#[121,101,115]⟩)]) (by simp[results,Tryz.results10,go_sem,z0]) rfl ⟨.agg #[.int .i64 os,.slice A1 n1 c1,.slice A2 n2 c2,.slice A3 n3 c3,.int .i64 st],by rw[HA.out]<;>rfl,fP.out.pick [0] (by decide) rfl rfl⟩
  by_cases h6:s.data.toList=Ak
  ·have hW:=h6;clear h6 h0 h1 h2 h3 h4 h5 hf;have HA:Bx (ans=⟨(jq (dD b)).toArray⟩):=Bx.mk (by rw[←hans,hW];unfold rE;rw[if_neg (by decide),if_neg (by decide),if_neg (by decide),if_neg (by decide),if_neg (by decide),if_neg (by decide),if_pos rfl]);have b0:s.toList=[112,114,111,111,102]:=by rw[Lib.toList_data,hW];rfl
   clear hW hans;have nJ:=af (je.out.pick [0,1,2,3,4] (by decide) rfl rfl)
   go_upto_region 37 with(fail)
   clear q0 q1 q6 f1 je b0
   refine kG (σ:=Unit)
    (fun _ i=>match i with
     |0=>.agg #[.int .i64 os,.slice A1 n1 c1,.slice A2 n2 c2,.slice A3 n3 c3,.int .i64 st]
     |1=>.agg #[.int .i64 st,.slice G gn gc,.slice G' n' c']
     |2=>.string ⟨(jq (dD b)).toArray⟩
     |4=>.string ⟨(jq (dD b)).toArray⟩
     |_=>undef)
    (fun D _ wx=>Sn w wx fun i=>match i with
     |0=>some (ah w.heap.size 28 #[.int .i64 os,.slice G gn gc,.slice G' n' c',.slice D' dn dc,.int .i64 st])
     |1=>some (ah (w.heap.size+1) 28 (if D 3=true then #[.int .i64 os,.slice A1 n1 c1,.slice A2 n2 c2,.slice A3 n3 c3,.int .i64 st] else #[.int .i64 0,.slice none 0 0,.slice none 0 0,.slice none 0 0,.int .i64 0]))
     |2=>some (aI (.agg #[.int .i64 os,.slice A1 n1 c1,.slice A2 n2 c2,.slice A3 n3 c3,.int .i64 st]) b)
     |3=>some (ah g6 28 #[.int .i64 os,.slice A1 n1 c1,.slice A2 n2 c2,.slice A3 n3 c3,.int .i64 st])
     |4=>some (ah g7 26 #[.int .i64 st,.slice G gn gc,.slice G' n' c'])
     |_=>none)
    () ?_ ?_ ?_
   ·intro D hD;refine((Sn.dN nJ.out).quiet ((ai _ _).drew)).congr fun i=>?_
    match i with
    |0=>rfl
    |1=>simp only[hD 3 (by decide)];rfl
    |2 | 3 | 4=>rfl
    |q+5=>rfl
   ·refine Cs (fun D _ wx hR _ hd _ _ hs K hK=>?_) ?_
    ·have e6:=hs.o 6 (.pointer (some ⟨g6,0,none⟩));clear hs;have qk:=(hR.blk 3 rfl).cell;go_simp;exact hK () wx sv hR
    refine Cs (fun D _ wx hR _ hd _ _ hs K hK=>?_) ?_
    ·have e7:=hs.o 7 (.pointer (some ⟨g7,0,none⟩));clear hs;have qk:=(hR.blk 4 rfl).cell;go_simp;exact hK () wx sv hR
    refine Cs (fun D _ wx hR _ hd _ _ hs K hK=>?_) ?_
    ·have aek:=hs.v 1 164 hd;have afN:=aX aek;clear hs;go_simp;refine(Eo _ (dD b) _ (Sr.out.up hR.below) acJ.out).mono ?_;rintro e2 w2 ⟨rfl,hb2⟩;exact hK () w2 sv (hR.quiet hb2)
    refine Cs (fun D _ wx hR (hDi:D 3=false) hd _ _ hs K hK=>?_) ?_
    ·have e4:=hs.o 4 (.pointer (some ⟨(w.heap.size+1),0,none⟩));have afO:=hs.v 0 163 hd;clear hs;have kb:fU wx (w.heap.size+1) 28 #[.int .i64 0,.slice none 0 0,.slice none 0 0,.slice none 0 0,.int .i64 0]:=hR.blk 1 (by simp only[hDi]<;>rfl);have f0:=kb.frozen;have qk:=kb.cell;go_simp
     exact hK () _ sv ((hR.fF 1 (by simp only[hDi];rfl) _ _ _ _ _).congr
      (fun i=>by
       match i with
       |0 | 1 | 2 | 3 | 4=>rfl
       |q+5=>exact(if_neg (show¬(q+5=1) by omega)).symm))
    refine Cs (fun D _ wx hR _ hd _ _ hs K hK=>?_) ?_
    ·have e165:=hs.v 2 165 hd;clear hs;go_simp;exact hK () wx sv hR
    exact aj.nil
   ·intro D _ wx hR hD;simp only[eH,Act.put,aO,aU,aW];have fP:Hid (St w wx [aI (.agg #[.int .i64 os,.slice A1 n1 c1,.slice A2 n2 c2,.slice A3 n3 c3,.int .i64 st]) b,ah (w.heap.size+1) 28 #[.int .i64 os,.slice A1 n1 c1,.slice A2 n2 c2,.slice A3 n3 c3,.int .i64 st]]):=af (hR.eG [2,1] (by decide) (by simp only[List.map,hD 3 (by decide)]<;>rfl));clear hR hD;have z0:=fP.out.cells 1 rfl;go_wp2;refine bodyPost_ret (v:=.tuple #[.agg #[.int .i64 os,.slice A1 n1 c1,.slice A2 n2 c2,.slice A3 n3 c3,.int .i64 st],.string ⟨(jq (dD b)).toArray⟩]) (by simp[results,Tryz.results10,go_sem,z0]) rfl ⟨.agg #[.int .i64 os,.slice A1 n1 c1,.slice A2 n2 c2,.slice A3 n3 c3,.int .i64 st],by rw[HA.out]<;>rfl,fP.out.pick [0] (by decide) rfl rfl⟩
  have b0:(s.toList == [102,105,110,105,115,104])=false:=by rw[dH,Lib.toList_data];intro h;exact hf (beq_iff_eq.1 h)
  have b1:(s.toList == [115,116,97,116,101])=false:=by rw[dH,Lib.toList_data];intro h;exact h0 (beq_iff_eq.1 h)
  have b2:(s.toList == [116,97,115,107])=false:=by rw[dH,Lib.toList_data];intro h;exact h1 (beq_iff_eq.1 h)
  have b3:(s.toList == [100,111,110,101])=false:=by rw[dH,Lib.toList_data];intro h;exact h2 (beq_iff_eq.1 h)
  have b4:(s.toList == [109,97,121])=false:=by rw[dH,Lib.toList_data];intro h;exact h3 (beq_iff_eq.1 h)
  have b5:(s.toList == [108,101,102,116])=false:=by rw[dH,Lib.toList_data];intro h;exact h4 (beq_iff_eq.1 h)
  have b6:(s.toList == [101,110,100,101,100])=false:=by rw[dH,Lib.toList_data];intro h;exact h5 (beq_iff_eq.1 h)
  have b7:(s.toList == [112,114,111,111,102])=false:=by rw[dH,Lib.toList_data];intro h;exact h6 (beq_iff_eq.1 h)
  have QE:=af (show(s.extract 0 6).data.toList=s.data.toList.take 6 by rw[Lib.extract_eq];simp)
  by_cases h6s:6<s.size
  ·have c6:(6:Int)<(s.size:Int):=by omega
   have c6':(6:Int)≤(s.size:Int):=by omega
   cases hcw:((s.extract 0 6).toList == [99,104,101,99,107,32]) with
   |true=>
    have hck:qm.isPrefixOf s.data.toList=true:=by
     rw[List.isPrefixOf_iff_prefix]
     have:=beq_iff_eq.1 hcw
     rw[Lib.toList_data,QE.out] at this;exact⟨s.data.toList.drop 6,(congrArg (· ++s.data.toList.drop 6) this.symm).trans (List.take_append_drop 6 _)⟩
    obtain⟨rb,hrb⟩:∃x,s.extract 6 s.size=x:=⟨_,rfl⟩;have YP:=Bx.mk hrb;have hrd:rb.data.toList=s.data.toList.drop 6:=by rw[←hrb,Lib.extract_eq];exact gW (by rw[List.length_drop,←Lib.size_eq];exact aA _)
    have ael:Hid (rb.size≤1099511627776):=af (by have:=Zh.out;rw[Lib.size_eq,hrd,List.length_drop,←Lib.size_eq];omega);obtain⟨z,hz⟩:∃z,bY (dD b) rb.data.toList=z:=⟨_,rfl⟩;have HZ:=Bx.mk hz;have HA0:Bx (ans=⟨(nC z).toArray⟩):=Bx.mk (by rw[←hans];unfold rE;rw[if_neg h0,if_neg h1,if_neg h2,if_neg h3,if_neg h4,if_neg h5,if_neg h6,if_pos ⟨hck,by rw[←Lib.size_eq];exact h6s⟩,←hrd,hz])
    obtain⟨zi,vs,h1z,h2z,h3z,h4z⟩:∃(zi:Nat) (vs:ByteArray),z+1=(zi:Int)∧zi<3∧ans=vs∧(#[Value.string ⟨#[110,111,116,104,105,110,103]⟩,Value.string ⟨#[99,97,110,110,111,116]⟩,Value.string ⟨#[99,97,110]⟩]:Array Value)[zi]? =some (.string vs):=by
     rcases Ae (dD b) rb.data.toList with h | h | h
     all_goals (rw[hz] at h;subst h)
     ·exact⟨0,_,by omega,by omega,HA0.out,rfl⟩
     ·exact⟨1,_,by omega,by omega,HA0.out,rfl⟩
     ·exact⟨2,_,by omega,by omega,HA0.out,rfl⟩
    have HZI:=af h1z;have Uc:=af h2z;have HA:Bx (ans=vs):=Bx.mk h3z;have HVS:=af h4z;have HZW:Hid (IntKind.i64.wrap (zi:Int)=(zi:Int)):=af (by rw[IntKind.wrap_i64]<;>omega);have HC6:=af c6';clear hrb hrd hz h1z h2z h3z h4z hck h6s hans h0 h1 h2 h3 h4 h5 h6 hf;have nJ:=af (je.out.pick [0,1,2,3,4] (by decide) rfl rfl)
    go_upto_region 39 with(fail)
    clear q0 q1 q6 f1 je b0 b1 b2 b3 b4 b5 b6 b7 c6 c6' hcw
    refine kG (σ:=Nat)
     (fun sg i=>match i with
      |0=>.agg #[.int .i64 os,.slice A1 n1 c1,.slice A2 n2 c2,.slice A3 n3 c3,.int .i64 st]
      |1=>.slice (some ⟨sg,0,none⟩) 3 3
      |2=>.agg #[.int .i64 st,.slice G gn gc,.slice G' n' c']
      |3=>.string s
      |4=>.string rb
      |5=>.int .i64 z
      |6=>.int .i64 (zi:Int)
      |7=>.pointer (some ⟨sg,zi,none⟩)
      |8=>.string vs
      |10=>.string vs
      |_=>undef)
     (fun D sg wx=>Sn w wx fun i=>match i with
      |0=>some (ah w.heap.size 28 #[.int .i64 os,.slice G gn gc,.slice G' n' c',.slice D' dn dc,.int .i64 st])
      |1=>some (ah (w.heap.size+1) 28 (if D 9=true then #[.int .i64 os,.slice A1 n1 c1,.slice A2 n2 c2,.slice A3 n3 c3,.int .i64 st] else #[.int .i64 0,.slice none 0 0,.slice none 0 0,.slice none 0 0,.int .i64 0]))
      |2=>some (aI (.agg #[.int .i64 os,.slice A1 n1 c1,.slice A2 n2 c2,.slice A3 n3 c3,.int .i64 st]) b)
      |3=>some (ah g6 28 #[.int .i64 os,.slice A1 n1 c1,.slice A2 n2 c2,.slice A3 n3 c3,.int .i64 st])
      |4=>some (ah g7 26 #[.int .i64 st,.slice G gn gc,.slice G' n' c'])
      |5=>if D 1=true then some (ah sg 9 #[.string ⟨#[110,111,116,104,105,110,103]⟩,.string ⟨#[99,97,110,110,111,116]⟩,.string ⟨#[99,97,110]⟩]) else none
      |_=>none)
     0 ?_ ?_ ?_
    ·intro D hD;refine((Sn.dN nJ.out).quiet ((ai _ _).drew)).congr fun i=>?_
     match i with
     |0=>rfl
     |1=>simp only[hD 9 (by decide)];rfl
     |2 | 3 | 4=>rfl
     |5=>simp only[hD 1 (by decide)];rfl
     |q+6=>rfl
    ·refine Cs (fun D sg wx hR _ hd _ _ hs K hK=>?_) ?_
     ·have e6:=hs.o 6 (.pointer (some ⟨g6,0,none⟩));clear hs;have qk:=(hR.blk 3 rfl).cell;go_simp;exact hK sg wx sv hR
     refine Cs (fun D sg wx hR (hDi:D 1=false) hd hsh _ hs K hK=>?_) ?_
     ·clear hs;have n7:D 7=false:=hsh.no hDi 7 rfl ⟨1,.data⟩ (by simp) rfl rfl;go_simp
      refine hK wx.heap.size _
       (fun j hj=>by
        match j,hj with
        |0,hj=>rfl
        |1,hj=>rw[hDi] at hj;cases hj
        |2,hj | 3,hj | 4,hj | 5,hj | 6,hj=>rfl
        |7,hj=>rw[n7] at hj;cases hj
        |8,hj | 9,hj | 10,hj=>rfl
        |_+11,hj=>rfl)
       ((hR.add 5 (if_neg (by rw[hDi];simp)) (St.new1 wx #[.string ⟨#[110,111,116,104,105,110,103]⟩,.string ⟨#[99,97,110,110,111,116]⟩,.string ⟨#[99,97,110]⟩] 9)).congr
        (fun i=>by
         match i with
         |0 | 1 | 2 | 3 | 4 | 5=>rfl
         |q+6=>exact(if_neg (show¬(q+6=5) by omega)).symm))
     refine Cs (fun D sg wx hR _ hd _ _ hs K hK=>?_) ?_
     ·have e7:=hs.o 7 (.pointer (some ⟨g7,0,none⟩));clear hs;have qk:=(hR.blk 4 rfl).cell;go_simp;exact hK sg wx sv hR
     refine Cs (fun D sg wx hR _ hd _ _ hs K hK=>?_) ?_
     ·have e1:=hs.o 1 (.string s);clear hs;go_simp;exact hK sg wx sv hR
     refine Cs (fun D sg wx hR _ hd _ _ hs K hK=>?_) ?_
     ·have afP:=hs.v 3 178 hd;clear hs;have h0:=HC6.out;have hrb:=YP.out;go_simp;exact hK sg wx sv hR
     refine Cs (fun D sg wx hR _ hd _ _ hs K hK=>?_) ?_
     ·have aem:=hs.v 2 177 hd;have aen:=hs.v 4 179 hd;have afQ:=aX aem;have afR:=aX aen;clear hs;go_simp;refine(BV _ (dD b) rb _ (Sr.out.up hR.below) acJ.out ael.out).mono ?_;rw[HZ.out];rintro e2 w2 ⟨rfl,hb2⟩;exact hK sg w2 sv (hR.quiet hb2)
     refine Cs (fun D sg wx hR _ hd _ _ hs K hK=>?_) ?_
     ·have afS:=hs.v 5 180 hd;clear hs;have h0:=HZI.out;have h1:=HZW.out;go_simp;exact hK sg wx sv hR
     refine Cs (fun D sg wx hR _ hd _ _ hs K hK=>?_) ?_
     ·have afT:=hs.v 1 176 hd;have e181:=hs.v 6 181 hd;clear hs;have h0:(zi:Int)<3:=by have:=Uc.out;omega
      go_simp;exact hK sg wx sv hR
     refine Cs (fun D sg wx hR _ hd hsh _ hs K hK=>?_) ?_
     ·have afU:=hs.v 7 182 hd;clear hs;have d7:D 7=true:=hd ⟨7,.data⟩ (by simp) rfl
      have d1:D 1=true:=by
       cases h1:D 1 with
       |true=>rfl
       |false=>rw[hsh.no h1 7 rfl ⟨1,.data⟩ (by simp) rfl rfl] at d7;cases d7
      have kb:fU wx sg 9 #[.string ⟨#[110,111,116,104,105,110,103]⟩,.string ⟨#[99,97,110,110,111,116]⟩,.string ⟨#[99,97,110]⟩]:=hR.blk 5 (by simp only[d1]<;>rfl);have c0:wx.cell? ⟨sg,zi,none⟩=some (.string vs):=(kb.cell zi).trans HVS.out;go_simp;exact hK sg wx sv hR
     refine Cs (fun D sg wx hR (hDi:D 9=false) hd _ _ hs K hK=>?_) ?_
     ·have e4:=hs.o 4 (.pointer (some ⟨(w.heap.size+1),0,none⟩));have afV:=hs.v 0 175 hd;clear hs;have kb:fU wx (w.heap.size+1) 28 #[.int .i64 0,.slice none 0 0,.slice none 0 0,.slice none 0 0,.int .i64 0]:=hR.blk 1 (by simp only[hDi]<;>rfl);have f0:=kb.frozen;have qk:=kb.cell;go_simp
      exact hK sg _ sv ((hR.fF 1 (by simp only[hDi];rfl) _ _ _ _ _).congr
       (fun i=>by
        match i with
        |0 | 1 | 2 | 3 | 4 | 5=>rfl
        |q+6=>exact(if_neg (show¬(q+6=1) by omega)).symm))
     refine Cs (fun D sg wx hR _ hd _ _ hs K hK=>?_) ?_
     ·have afW:=hs.v 8 183 hd;clear hs;go_simp;exact hK sg wx sv hR
     exact aj.nil
    ·intro D sg wx hR hD;simp only[eH,Act.put,aO,aU,aW];have fP:Hid (St w wx [aI (.agg #[.int .i64 os,.slice A1 n1 c1,.slice A2 n2 c2,.slice A3 n3 c3,.int .i64 st]) b,ah (w.heap.size+1) 28 #[.int .i64 os,.slice A1 n1 c1,.slice A2 n2 c2,.slice A3 n3 c3,.int .i64 st]]):=af (hR.eG [2,1] (by decide) (by simp only[List.map,hD 9 (by decide)]<;>rfl));clear hR hD;have z0:=fP.out.cells 1 rfl;go_wp2;refine bodyPost_ret (v:=.tuple #[.agg #[.int .i64 os,.slice A1 n1 c1,.slice A2 n2 c2,.slice A3 n3 c3,.int .i64 st],.string vs]) (by simp[results,Tryz.results10,go_sem,z0]) rfl ⟨.agg #[.int .i64 os,.slice A1 n1 c1,.slice A2 n2 c2,.slice A3 n3 c3,.int .i64 st],by rw[HA.out]<;>rfl,fP.out.pick [0] (by decide) rfl rfl⟩
   |false=>
    have HA:Bx (ans=⟨Ep.toArray⟩):=Bx.mk (by
     rw[←hans];unfold rE;rw[if_neg h0,if_neg h1,if_neg h2,if_neg h3,if_neg h4,if_neg h5,if_neg h6,if_neg];rintro⟨hp,-⟩;obtain⟨r,hr⟩:=List.isPrefixOf_iff_prefix.1 hp;have:(s.extract 0 6).toList=qm:=by rw[Lib.toList_data,QE.out,←hr];rfl
     rw[this] at hcw;cases hcw)
    clear h6s hans h0 h1 h2 h3 h4 h5 h6 hf;have fP:=af ((je.out.fF 1 rfl (.int .i64 os) (.slice A1 n1 c1) (.slice A2 n2 c2) (.slice A3 n3 c3) (.int .i64 st)).pick [2,1] (by decide) rfl rfl);go_wp2;have z0:=fP.out.cells 1 rfl;refine bodyPost_ret (v:=.tuple #[.agg #[.int .i64 os,.slice A1 n1 c1,.slice A2 n2 c2,.slice A3 n3 c3,.int .i64 st],.string ⟨#[119,104,97,116]⟩]) (by simp[results,Tryz.results10,go_sem,z0]) rfl ⟨.agg #[.int .i64 os,.slice A1 n1 c1,.slice A2 n2 c2,.slice A3 n3 c3,.int .i64 st],by rw[HA.out]<;>rfl,fP.out.pick [0] (by decide) rfl rfl⟩
  ·have c6:¬(6:Int)<(s.size:Int):=by omega
   have HA:Bx (ans=⟨Ep.toArray⟩):=Bx.mk (by
    rw[←hans];unfold rE;rw[if_neg h0,if_neg h1,if_neg h2,if_neg h3,if_neg h4,if_neg h5,if_neg h6,if_neg];rintro⟨-,hp⟩;rw[←Lib.size_eq] at hp
    exact h6s hp)
   clear h6s hans h0 h1 h2 h3 h4 h5 h6 hf;have fP:=af ((je.out.fF 1 rfl (.int .i64 os) (.slice A1 n1 c1) (.slice A2 n2 c2) (.slice A3 n3 c3) (.int .i64 st)).pick [2,1] (by decide) rfl rfl);go_wp2;have z0:=fP.out.cells 1 rfl;refine bodyPost_ret (v:=.tuple #[.agg #[.int .i64 os,.slice A1 n1 c1,.slice A2 n2 c2,.slice A3 n3 c3,.int .i64 st],.string ⟨#[119,104,97,116]⟩]) (by simp[results,Tryz.results10,go_sem,z0]) rfl ⟨.agg #[.int .i64 os,.slice A1 n1 c1,.slice A2 n2 c2,.slice A3 n3 c3,.int .i64 st],by rw[HA.out]<;>rfl,fP.out.pick [0] (by decide) rfl rfl⟩
 |some a=>
  obtain⟨k,m⟩:=a;have hk0:k0=k:=HK0.out;have hm0:m0=m:=CQ.out;have yt:bo=true:=HBO.out;subst hk0 hm0 yt;have hpb:=HPB.out;have hans:=Vz.out;rw[Mc bG.out HR.out] at hpb hans
  simp only at hpb hans
  have YF:Bx ((Lit.int .i64 m0).wf=true):=Bx.mk (bU (by have:=BA HR.out;omega));obtain⟨did,wE⟩:∃x,eY b ⟨k0,m0⟩=x:=⟨_,rfl⟩;have Es:=Bx.mk wE;have HA:Bx (ans=yQ did ⟨#[111,107]⟩):=Bx.mk (by rw[←hans,wE];cases did<;>rfl);have HX:=Bx.mk hpb;obtain⟨jI,VA⟩:∃y,pb.order.start=y:=⟨_,rfl⟩;obtain⟨xt,hxt⟩:∃y,pb.state=y:=⟨_,rfl⟩;have Uh:=Bx.mk VA;have Ui:=Bx.mk hxt;clear hpb hans wE VA hxt;have q8:=je.out.cells 5 rfl
  go_wp2_with fail
  refine(uy _ b k0 m0 _ (HB.out.up je.out.below) YF.out).mono ?_;rw[HX.out,Es.out];rintro e w8 ⟨v8,rfl,s8⟩;obtain⟨X1,i1,j1,X2,i2,j2,X3,i3,j3,hv⟩:=s8.gU 0 rfl;rw[Uh.out,Ui.out] at hv;subst hv;obtain⟨g9,WC⟩:∃y,w8.heap.size=y:=⟨_,rfl⟩;have fP:Hid (St w (w8.alloc (.cells #[.int .i64 jI,.slice X1 i1 j1,.slice X2 i2 j2,.slice X3 i3 j3,.int .i64 xt] 28)) [ah (w.heap.size+1) 28 #[.int .i64 0,.slice none 0 0,.slice none 0 0,.slice none 0 0,.int .i64 0],aI (.agg #[.int .i64 jI,.slice X1 i1 j1,.slice X2 i2 j2,.slice X3 i3 j3,.int .i64 xt]) pb,ah g9 28 #[.int .i64 jI,.slice X1 i1 j1,.slice X2 i2 j2,.slice X3 i3 j3,.int .i64 xt]]):=af (by rw[←WC];exact((je.out.call s8).alloc _ _).pick [1,9,10] (by decide) rfl rfl);clear s8 je q0 q1 q6 q8 f1
  go_upto_region 11 with(fail)
  refine kG (σ:=Unit)
   (fun _ i=>match i with
    |0=>.agg #[.int .i64 jI,.slice X1 i1 j1,.slice X2 i2 j2,.slice X3 i3 j3,.int .i64 xt]
    |1=>.bool did
    |2=>.string (yQ did ⟨#[111,107]⟩)
    |4=>.string (yQ did ⟨#[111,107]⟩)
    |_=>undef)
   (fun D _ wx=>Sn w wx fun i=>match i with
    |0=>some (ah (w.heap.size+1) 28 (if D 3=true then #[.int .i64 jI,.slice X1 i1 j1,.slice X2 i2 j2,.slice X3 i3 j3,.int .i64 xt] else #[.int .i64 0,.slice none 0 0,.slice none 0 0,.slice none 0 0,.int .i64 0]))
    |1=>some (aI (.agg #[.int .i64 jI,.slice X1 i1 j1,.slice X2 i2 j2,.slice X3 i3 j3,.int .i64 xt]) pb)
    |2=>some (ah g9 28 #[.int .i64 jI,.slice X1 i1 j1,.slice X2 i2 j2,.slice X3 i3 j3,.int .i64 xt])
    |_=>none)
   () ?_ ?_ ?_
  ·intro D hD;refine((Sn.dN fP.out).quiet ((ai _ _).drew)).congr fun i=>?_
   match i with
   |0=>simp only[hD 3 (by decide)];rfl
   |1 | 2=>rfl
   |q+3=>rfl
  ·refine Cs (fun D _ wx hR _ hd _ _ hs K hK=>?_) ?_
   ·have e14:=hs.o 14 (.pointer (some ⟨g9,0,none⟩));clear hs;have qk:=(hR.blk 2 rfl).cell;go_simp;exact hK () wx sv hR
   refine Cs (fun D _ wx hR _ hd _ _ hs K hK=>?_) ?_
   ·have e15:=hs.o 15 (.bool did);clear hs;go_simp;exact hK () wx sv hR
   refine Cs (fun D _ wx hR _ hd _ _ hs K hK=>?_) ?_
   ·have e63:=hs.v 1 63 hd;have g63:=aX e63;clear hs;go_simp;refine(Bv did ⟨#[111,107]⟩ _).mono ?_;rintro e2 w2 ⟨rfl,rfl⟩;exact hK () wx sv hR
   refine Cs (fun D _ wx hR (hDi:D 3=false) hd _ _ hs K hK=>?_) ?_
   ·have e4:=hs.o 4 (.pointer (some ⟨(w.heap.size+1),0,none⟩));have e62:=hs.v 0 62 hd;clear hs;have kb:fU wx (w.heap.size+1) 28 #[.int .i64 0,.slice none 0 0,.slice none 0 0,.slice none 0 0,.int .i64 0]:=hR.blk 0 (by simp only[hDi]<;>rfl);have f0:=kb.frozen;have qk:=kb.cell;go_simp
    exact hK () _ sv ((hR.fF 0 (by simp only[hDi];rfl) _ _ _ _ _).congr
     (fun i=>by
      match i with
      |0 | 1 | 2=>rfl
      |q+3=>exact(if_neg (show¬(q+3=0) by omega)).symm))
   refine Cs (fun D _ wx hR _ hd _ _ hs K hK=>?_) ?_
   ·have e64:=hs.v 2 64 hd;clear hs;go_simp;exact hK () wx sv hR
   exact aj.nil
  ·intro D _ wx hR hD;simp only[eH,Act.put,aO,aU,aW];have BU:Hid (St w wx [aI (.agg #[.int .i64 jI,.slice X1 i1 j1,.slice X2 i2 j2,.slice X3 i3 j3,.int .i64 xt]) pb,ah (w.heap.size+1) 28 #[.int .i64 jI,.slice X1 i1 j1,.slice X2 i2 j2,.slice X3 i3 j3,.int .i64 xt]]):=af (hR.eG [1,0] (by decide) (by simp only[List.map,hD 3 (by decide)]<;>rfl));clear hR hD;have z0:=BU.out.cells 1 rfl;go_wp2;refine bodyPost_ret (v:=.tuple #[.agg #[.int .i64 jI,.slice X1 i1 j1,.slice X2 i2 j2,.slice X3 i3 j3,.int .i64 xt],.string (yQ did ⟨#[111,107]⟩)]) (by simp[results,Tryz.results10,go_sem,z0]) rfl ⟨.agg #[.int .i64 jI,.slice X1 i1 j1,.slice X2 i2 j2,.slice X3 i3 j3,.int .i64 xt],by rw[HA.out]<;>rfl,BU.out.pick [0] (by decide) rfl rfl⟩
theorem FQ (v:Value) (b:aG) (s:ByteArray) (w:World) (h:RdB w w.heap.size v b) (hs:s.size≤1099511627776):
  Calls Tryz.prog 10 #[v,.string s] w (xO b s.data.toList w):=by
 cases hok:aN b with
 |false=>exact Sm v b s w h hok
 |true=>exact LY v b s w h hok hs
end Go.Proofs.YtkmcengmglgdeaaGreatDoor
