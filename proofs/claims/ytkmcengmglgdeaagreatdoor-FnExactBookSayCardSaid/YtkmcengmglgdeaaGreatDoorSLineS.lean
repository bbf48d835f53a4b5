/- A part of the proof: LineS. -/
import Derived.Test.YtkmcengmglgdeaaGreatDoorSAnsI
import Derived.Test.YtkmcengmglgdeaaGreatDoorSDoS
import Derived.Test.YtkmcengmglgdeaaGreatDoorSRightS
import Derived.Test.YtkmcengmglgdeaaGreatDoorSTaskTS
import Derived.Test.YtkmcengmglgdeaaGreatDoorSActR
import Derived.Deep.Cut
namespace Go.Proofs.YtkmcengmglgdeaaGreatDoor
set_option linter.unusedVariables false
set_option linter.unusedSimpArgs false
set_option maxRecDepth 100000
set_option maxHeartbeats 8000000
open Go.ChangeShapes Go.WideShapes Go.ChangeAt Go.RowKit
theorem zI (t:aB) (s:List UInt8):bT t s= -1∨bT t s=0∨bT t s=1:=by
 unfold bT
 repeat' split
 all_goals simp
def yI (b:Bool) (s:ByteArray):ByteArray:=if b then s else⟨#[110,111]⟩
theorem AO (b:Bool) (s:ByteArray) (w:World):
  Calls Tryz.prog 57 #[.bool b,.string s] w fun e w'=>e= .returned (.string (yI b s))∧w=w':=by
 cases b
 all_goals
  go_enter Tryz.func57,Tryz.ntmps57;go_wp2;go_ret;exact⟨rfl,rfl⟩
theorem St.aco {w W:World} {L:List dW} (h:St w W L) (i:Nat) {g n c:Nat} {xs:List Int} (hi:L[i]? =some (aA (.slice (some ⟨g,0,none⟩) n c) xs)) (hn:xs.length=n) (k:Nat) (x:Int) (hx:xs[k]? =some x):W.cell? ⟨g,k,none⟩=some (.int .i64 x):=by
 obtain⟨F,h1,-⟩:=h.get i hi;have hr:W.ownsRow 0 3 1 (.slice (some ⟨g,0,none⟩) n c) n (Go.Proofs.YtkmcengmglgdeaaGreatDoor.ints xs):=hn▸h1.row;have hk:=(aW.1 hx).1;rw[hr.cellAt k (by omega)]
 simp[Go.Proofs.YtkmcengmglgdeaaGreatDoor.ints,hx]
theorem St.acp {w W:World} {L:List dW} (h:St w W L) (i:Nat) {v:Value} {n:Nat} {xs:List Int} (hi:L[i]? =some (aA v xs)) (hn:xs.length=n):W.ownsRow 0 3 1 v n (Go.Proofs.YtkmcengmglgdeaaGreatDoor.ints xs):=by
 obtain⟨F,h1,-⟩:=h.get i hi;exact hn▸h1.row
theorem Sl (v:Value) (b:aI) (s:ByteArray) (w:World) (h:RdB w w.heap.size v b) (hok:aP b=false):
  Calls Tryz.prog 10 #[v,.string s] w (wE b s.data.toList w):=by
 unfold wE
 rw[Ju hok];obtain⟨G,gn,gc,G',n',c',D',dn,dc,hv⟩:=h.form;subst hv;obtain⟨os,hos⟩:∃x,b.order.start=x:=⟨_,rfl⟩;obtain⟨st,hst⟩:∃x,b.state=x:=⟨_,rfl⟩;rw[hos,hst] at h ⊢
 have aQ:Hid (St w ((w.alloc (.cells #[.int .i64 os,.slice G gn gc,.slice G' n' c',.slice D' dn dc,.int .i64 st] 28)).alloc (.cells #[.int .i64 0,.slice none 0 0,.slice none 0 0,.slice none 0 0,.int .i64 0] 28)) [ah w.heap.size 28 #[.int .i64 os,.slice G gn gc,.slice G' n' c',.slice D' dn dc,.int .i64 st],ah (w.heap.size+1) 28 #[.int .i64 0,.slice none 0 0,.slice none 0 0,.slice none 0 0,.int .i64 0]]):=af (by
  have:=((St.refl w).alloc #[.int .i64 os,.slice G gn gc,.slice G' n' c',.slice D' dn dc,.int .i64 st] 28).alloc #[.int .i64 0,.slice none 0 0,.slice none 0 0,.slice none 0 0,.int .i64 0] 28
  simpa using this)
 have HB:=af h;have bC:=Bx.mk hok;have pR:=Bx.mk hos;have jX:=Bx.mk hst;clear h hok hos hst;go_enter Tryz.func10,Tryz.ntmps10
 go_wp2_with fail
 refine(dM _ b _ (HB.out.up aQ.out.below)).mono ?_;rw[bC.out];rintro e w1 ⟨rfl,hb1⟩;have bG:=af (aQ.out.quiet hb1);clear hb1 aQ;have q1:=bG.out.cells 1 rfl;have f1:=bG.out.free 1 rfl;go_wp2;refine bodyPost_ret (v:=.tuple #[.agg #[.int .i64 0,.slice none 0 0,.slice none 0 0,.slice none 0 0,.int .i64 0],.string ⟨#[]⟩]) (by simp[results,Tryz.results10,go_sem,q1]) rfl ⟨.agg #[.int .i64 0,.slice none 0 0,.slice none 0 0,.slice none 0 0,.int .i64 0],rfl,?_⟩;exact St.book0 (bG.out.fH 1 rfl _ _ _ _ _).below
theorem LX (v:Value) (b:aI) (s:ByteArray) (w:World) (h:RdB w w.heap.size v b) (hok:aP b=true) (hs:s.size≤1099511627776):
  Calls Tryz.prog 10 #[v,.string s] w (wE b s.data.toList w):=by
 unfold wE
 obtain⟨G,gn,gc,G',n',c',D',dn,dc,hv⟩:=h.form;subst hv;obtain⟨os,hos⟩:∃x,b.order.start=x:=⟨_,rfl⟩;obtain⟨st,hst⟩:∃x,b.state=x:=⟨_,rfl⟩;rw[hos,hst] at h ⊢
 have aQ:Hid (St w ((w.alloc (.cells #[.int .i64 os,.slice G gn gc,.slice G' n' c',.slice D' dn dc,.int .i64 st] 28)).alloc (.cells #[.int .i64 0,.slice none 0 0,.slice none 0 0,.slice none 0 0,.int .i64 0] 28)) [ah w.heap.size 28 #[.int .i64 os,.slice G gn gc,.slice G' n' c',.slice D' dn dc,.int .i64 st],ah (w.heap.size+1) 28 #[.int .i64 0,.slice none 0 0,.slice none 0 0,.slice none 0 0,.int .i64 0]]):=af (by
  have:=((St.refl w).alloc #[.int .i64 os,.slice G gn gc,.slice G' n' c',.slice D' dn dc,.int .i64 st] 28).alloc #[.int .i64 0,.slice none 0 0,.slice none 0 0,.slice none 0 0,.int .i64 0] 28
  simpa using this)
 have HB:=af h;have bC:=Bx.mk hok;have pR:=Bx.mk hos;have jX:=Bx.mk hst;have hbp:=bH hok;have acr:=Bx.mk hbp.1;have adX:dn≤1000:=by have:=h.done.1.len;omega
 have HDN:=af h.done.1;have fF:Hid (b.done.length=dn):=af h.done.1.len;have Dp:=af h.order;have Rl:=af (h.from_ hst.symm);have acs:=Bx.mk (fJ hbp.1 hbp.2.2.1);have HWD:=Bx.mk (eu hok);obtain⟨ro,hro⟩:∃o,dF b=o:=⟨_,rfl⟩;have Ae:=Bx.mk hro;obtain⟨aa,XI⟩:∃o,iD b=o:=⟨_,rfl⟩;have HAA:=Bx.mk XI;obtain⟨xs,hxs⟩:∃o,dG b.order st=o:=⟨_,rfl⟩;have HMY:=Bx.mk hxs;have HXB:Hid (∀x∈xs,0≤x∧x<100):=af fun x hx=>by rw[←hxs] at hx;have:=Aa hx;omega
 have adY:xs.length≤6:=by rw[←hxs];exact xI b.order st
 obtain⟨oA,hoA⟩:∃o,readA s.data.toList=o:=⟨_,rfl⟩;have HR:=Bx.mk hoA;have Il:=af hs;obtain⟨pb,hpb⟩:∃x,(nM b s.data.toList).1=x:=⟨_,rfl⟩;obtain⟨ans,hans⟩:∃x,(⟨(nM b s.data.toList).2.toArray⟩:ByteArray)=x:=⟨_,rfl⟩;rw[hpb,hans];have ZR:=Bx.mk hpb;have Tv:=Bx.mk hans;obtain⟨sn,hsn⟩:=bI (show 0≤st by rw[←hst];exact hbp.2.2.1.1);have HSE:=Bx.mk hsn;have yN:Hid (sn<32):=af (by have:=hbp.2.2.1.2;rw[hst] at this;omega);have adZ:Hid (b.state.toNat=sn):=af (by rw[hst,hsn];simp);have HDB:Hid (dn<100000000000):=af (by omega);have YQ:=af (XI▸BJ b hok);have hlen:aa.length≤2:=by rw[←XI];exact tH b
 clear h hok hos hst hs hbp hro XI hxs hoA hpb hans hsn;go_enter Tryz.func10,Tryz.ntmps10
 go_wp2_with fail
 refine(dM _ b _ (HB.out.up aQ.out.below)).mono ?_;rw[bC.out];rintro e w1 ⟨rfl,hb1⟩;have bG:=af (aQ.out.quiet hb1);clear hb1 aQ;have q0:=bG.out.cells 0 rfl
 go_wp2_with fail
 refine(dR _ b D' dn dc b.done _ (HB.out.up bG.out.below) acr.out (HDN.out.up bG.out.below) adX).mono ?_;rw[HWD.out];rintro e w2 ⟨v2,rfl,s2⟩;obtain⟨A1,n1,c1,A2,n2,c2,A3,n3,c3,hv⟩:=s2.gW 0 rfl;rw[pR.out,jX.out] at hv;subst hv;obtain⟨g6,yR⟩:∃y,w2.heap.size=y:=⟨_,rfl⟩;obtain⟨g7,hg7⟩:∃y,g6+1=y:=⟨_,rfl⟩;have S2:St w (w2.alloc (.cells #[.int .i64 os,.slice A1 n1 c1,.slice A2 n2 c2,.slice A3 n3 c3,.int .i64 st] 28)) [ah w.heap.size 28 #[.int .i64 os,.slice G gn gc,.slice G' n' c',.slice D' dn dc,.int .i64 st],ah (w.heap.size+1) 28 #[.int .i64 0,.slice none 0 0,.slice none 0 0,.slice none 0 0,.int .i64 0],bF (.agg #[.int .i64 os,.slice A1 n1 c1,.slice A2 n2 c2,.slice A3 n3 c3,.int .i64 st]) b,ah g6 28 #[.int .i64 os,.slice A1 n1 c1,.slice A2 n2 c2,.slice A3 n3 c3,.int .i64 st]]:=by rw[←yR];exact(bG.out.call s2).alloc _ _
 have q0:=S2.cells 0 rfl
 have HS2:Hid (St w ((w2.alloc (.cells #[.int .i64 os,.slice A1 n1 c1,.slice A2 n2 c2,.slice A3 n3 c3,.int .i64 st] 28)).alloc (.cells #[.int .i64 st,.slice G gn gc,.slice G' n' c'] 26)) [ah w.heap.size 28 #[.int .i64 os,.slice G gn gc,.slice G' n' c',.slice D' dn dc,.int .i64 st],ah (w.heap.size+1) 28 #[.int .i64 0,.slice none 0 0,.slice none 0 0,.slice none 0 0,.int .i64 0],bF (.agg #[.int .i64 os,.slice A1 n1 c1,.slice A2 n2 c2,.slice A3 n3 c3,.int .i64 st]) b,ah g6 28 #[.int .i64 os,.slice A1 n1 c1,.slice A2 n2 c2,.slice A3 n3 c3,.int .i64 st],ah g7 26 #[.int .i64 st,.slice G gn gc,.slice G' n' c']]):=af (by
  have:=S2.alloc #[.int .i64 st,.slice G gn gc,.slice G' n' c'] 26
  rw[World.size_alloc,yR,hg7] at this
  exact this)
 clear s2 S2 bG
 go_wp2_with fail
 try simp only[World.size_alloc,yR,hg7]
 refine(IL s _ Il.out).mono ?_;rw[HR.out];rintro e w4 ⟨he,hb4⟩;obtain⟨k0,m0,bo,he',hk0,hm0,OW⟩:=he.form;subst he';have HK0:=Bx.mk hk0;have Bz:=Bx.mk hm0;have HBO:=Bx.mk OW;clear he q0 hk0 hm0 OW;obtain⟨g8,hg8⟩:∃y,w4.heap.size=y:=⟨_,rfl⟩;have iM:Hid (St w (w4.alloc (.cells #[.int .i64 k0,.int .i64 m0] 64)) [ah w.heap.size 28 #[.int .i64 os,.slice G gn gc,.slice G' n' c',.slice D' dn dc,.int .i64 st],ah (w.heap.size+1) 28 #[.int .i64 0,.slice none 0 0,.slice none 0 0,.slice none 0 0,.int .i64 0],bF (.agg #[.int .i64 os,.slice A1 n1 c1,.slice A2 n2 c2,.slice A3 n3 c3,.int .i64 st]) b,ah g6 28 #[.int .i64 os,.slice A1 n1 c1,.slice A2 n2 c2,.slice A3 n3 c3,.int .i64 st],ah g7 26 #[.int .i64 st,.slice G gn gc,.slice G' n' c'],ah g8 64 #[.int .i64 k0,.int .i64 m0]]):=af (by rw[←hg8];exact(HS2.out.quiet hb4).alloc _ _);clear hb4 HS2;have q0:=iM.out.cells 0 rfl
 go_wp2_with fail
 try simp only[yR,hg7,hg8]
 refine(rO _ b _ (HB.out.up iM.out.below)).mono ?_;rw[Ae.out];rintro e w5 ⟨v5,rfl,s5⟩;have S5:=iM.out.call s5;clear s5 iM q0;obtain⟨A5,d5,rfl,-⟩:=S5.xq 6 rfl;have fV:=af S5;clear S5;have q0:=fV.out.cells 0 rfl
 go_wp2_with fail
 refine(IC _ b _ (HB.out.up fV.out.below)).mono ?_;rw[HAA.out];rintro e w6 ⟨v6,rfl,s6⟩;have S6:=fV.out.call s6;clear s6 fV q0;obtain⟨A6,d6,rfl,hra⟩:=S6.rdA 7 rfl;have HRA:=af hra;have oJ:=af S6;clear S6 hra;simp only[id];have q0:=oJ.out.cells 0 rfl
 go_wp2_with fail
 refine(nJ _ b.order st _ (Dp.out.up oJ.out.below)).mono ?_;rw[HMY.out];rintro e w7 ⟨v7,rfl,s7⟩;have S7:=oJ.out.call s7;clear s7 oJ q0;obtain⟨A7,d7,rfl,-⟩:=S7.xq 8 rfl;have kX:=af S7;clear S7;simp only[id];have q0:=kX.out.cells 0 rfl;have q1:=kX.out.cells 1 rfl;have q6:=kX.out.cells 3 rfl;have f1:=kX.out.free 1 rfl
 cases oA with
 |none=>
  have hk0:k0=0:=HK0.out;have hm0:m0=0:=Bz.out;have OW:bo=false:=HBO.out;subst hk0 hm0 OW
  by_cases hf:s.data.toList=nH
  ·have hW:=hf;clear hf;have hpb:=ZR.out;have hans:=Tv.out;rw[hW,Jw bC.out,HAA.out] at hpb hans
   simp only at hpb hans
   have HX:=Bx.mk hpb;obtain⟨ve,VB⟩:∃y,pb.order.start=y:=⟨_,rfl⟩;obtain⟨xt,hxt⟩:∃y,pb.state=y:=⟨_,rfl⟩;have YR:=Bx.mk VB;have YS:=Bx.mk hxt;have b0:s.toList=[102,105,110,105,115,104]:=by rw[Lib.toList_data,hW];rfl
   obtain⟨al,hal⟩:∃x,aa.length=x:=⟨_,rfl⟩;have uY:=af hal;rw[hal] at hlen hans;have YT:Hid (XJ w7 w7.heap.size A6 al d6 aa):=af (by rw[←hal];exact kX.out.WQ 7 rfl);have HA:=Bx.mk hans.symm;rw[hal];clear hal hpb hans hW VB hxt
   by_cases h0:al=0
   ·subst h0;have HRN:Bx (gX b []=(b,0)):=Bx.mk (Aq bC.out);have hx:b=pb:=by have:=HX.out;rw[List.length_eq_zero_iff.1 uY.out,HRN.out] at this;exact this
    subst hx;have gy:=af ((kX.out.fH 1 rfl (.int .i64 os) (.slice A1 n1 c1) (.slice A2 n2 c2) (.slice A3 n3 c3) (.int .i64 st)).pick [2,1] (by decide) rfl rfl);go_wp2;have z0:=gy.out.cells 1 rfl;refine bodyPost_ret (v:=.tuple #[.agg #[.int .i64 os,.slice A1 n1 c1,.slice A2 n2 c2,.slice A3 n3 c3,.int .i64 st],.string ⟨#[110,111,110,101]⟩]) (by simp[results,Tryz.results10,go_sem,z0]) rfl ⟨.agg #[.int .i64 os,.slice A1 n1 c1,.slice A2 n2 c2,.slice A3 n3 c3,.int .i64 st],by rw[HA.out]<;>rfl,gy.out.pick [0] (by decide) rfl rfl⟩
   have h0i:((al:Int) == 0)=false:=beq_false_of_ne (by omega);have HA2:Bx (ans=⟨okW.toArray⟩):=Bx.mk (by rw[HA.out,if_neg h0]);clear h0 HA;have HA:=HA2
   go_wp2_with fail
   refine(Jc _ b A6 al d6 aa _ (HB.out.up kX.out.below) YT.out YQ.out).mono ?_;rw[HX.out];rintro e w8 ⟨v8,rfl,s8⟩;obtain⟨X1,i1,j1,X2,i2,j2,X3,i3,j3,hv⟩:=s8.gW 0 rfl;rw[YR.out,YS.out] at hv;subst hv;obtain⟨g9,XH⟩:∃y,w8.heap.size=y:=⟨_,rfl⟩;have gy:Hid (St w (w8.alloc (.cells #[.int .i64 ve,.slice X1 i1 j1,.slice X2 i2 j2,.slice X3 i3 j3,.int .i64 xt] 28)) [ah (w.heap.size+1) 28 #[.int .i64 0,.slice none 0 0,.slice none 0 0,.slice none 0 0,.int .i64 0],bF (.agg #[.int .i64 ve,.slice X1 i1 j1,.slice X2 i2 j2,.slice X3 i3 j3,.int .i64 xt]) pb,ah g9 28 #[.int .i64 ve,.slice X1 i1 j1,.slice X2 i2 j2,.slice X3 i3 j3,.int .i64 xt]]):=af (by rw[←XH];exact((kX.out.call s8).alloc _ _).pick [1,9,10] (by decide) rfl rfl);clear s8 kX q0 q1 q6 f1;have q1:=gy.out.cells 0 rfl;have q9:=gy.out.cells 2 rfl;have f1:=gy.out.free 0 rfl;have VD:=af ((gy.out.fH 0 rfl (.int .i64 ve) (.slice X1 i1 j1) (.slice X2 i2 j2) (.slice X3 i3 j3) (.int .i64 xt)).pick [1,0] (by decide) rfl rfl);go_wp2;have z0:=VD.out.cells 1 rfl;refine bodyPost_ret (v:=.tuple #[.agg #[.int .i64 ve,.slice X1 i1 j1,.slice X2 i2 j2,.slice X3 i3 j3,.int .i64 xt],.string ⟨#[111,107]⟩]) (by simp[results,Tryz.results10,go_sem,z0]) rfl ⟨.agg #[.int .i64 ve,.slice X1 i1 j1,.slice X2 i2 j2,.slice X3 i3 j3,.int .i64 xt],by rw[HA.out]<;>rfl,VD.out.pick [0] (by decide) rfl rfl⟩
  have hpb:=ZR.out;have hans:=Tv.out;rw[Jy bC.out HR.out hf] at hpb hans
  simp only at hpb hans
  subst hpb
  by_cases h0:s.data.toList=DI
  ·have hW:=h0;clear h0 hf;have HA:Bx (ans=⟨(fP sn).toArray⟩):=Bx.mk (by rw[←hans,hW];unfold tC;rw[if_pos rfl,adZ.out]);have b0:s.toList=[115,116,97,116,101]:=by rw[Lib.toList_data,hW];rfl
   clear hW hans;have uZ:=af (kX.out.pick [0,1,2,3,4] (by decide) rfl rfl)
   go_upto_region 18 with(fail)
   clear q0 q1 q6 f1 kX b0
   refine kS (σ:=Unit)
    (fun _ i=>match i with
     |0=>.agg #[.int .i64 os,.slice A1 n1 c1,.slice A2 n2 c2,.slice A3 n3 c3,.int .i64 st]
     |1=>.pointer (some ⟨w.heap.size,4,none⟩)
     |2=>.int .i64 st
     |3=>.string ⟨(fP sn).toArray⟩
     |5=>.string ⟨(fP sn).toArray⟩
     |_=>undef)
    (fun D _ wx=>Sn w wx fun i=>match i with
     |0=>some (ah w.heap.size 28 #[.int .i64 os,.slice G gn gc,.slice G' n' c',.slice D' dn dc,.int .i64 st])
     |1=>some (ah (w.heap.size+1) 28 (if D 4=true then #[.int .i64 os,.slice A1 n1 c1,.slice A2 n2 c2,.slice A3 n3 c3,.int .i64 st] else #[.int .i64 0,.slice none 0 0,.slice none 0 0,.slice none 0 0,.int .i64 0]))
     |2=>some (bF (.agg #[.int .i64 os,.slice A1 n1 c1,.slice A2 n2 c2,.slice A3 n3 c3,.int .i64 st]) b)
     |3=>some (ah g6 28 #[.int .i64 os,.slice A1 n1 c1,.slice A2 n2 c2,.slice A3 n3 c3,.int .i64 st])
     |4=>some (ah g7 26 #[.int .i64 st,.slice G gn gc,.slice G' n' c'])
     |_=>none)
    () ?_ ?_ ?_
   ·intro D hD;refine((Sn.eY uZ.out).quiet ((ai _ _).drew)).congr fun i=>?_
    match i with
    |0=>rfl
    |1=>simp only[hD 4 (by decide)];rfl
    |2 | 3 | 4=>rfl
    |q+5=>rfl
   ·refine Cs (fun D _ wx hR _ hd _ _ hs K hK=>?_) ?_
    ·have e6:=hs.o 6 (.pointer (some ⟨g6,0,none⟩));clear hs;have qk:=(hR.blk 3 rfl).cell;go_simp;exact hK () wx sv hR
    refine Cs (fun D _ wx hR _ hd _ _ hs K hK=>?_) ?_
    ·have e2:=hs.o 2 (.pointer (some ⟨w.heap.size,0,none⟩));clear hs;go_simp;exact hK () wx sv hR
    refine Cs (fun D _ wx hR _ hd _ _ hs K hK=>?_) ?_
    ·have e88:=hs.v 1 88 hd;clear hs;have qk:=(hR.blk 0 rfl).cell;go_simp;exact hK () wx sv hR
    refine Cs (fun D _ wx hR _ hd _ _ hs K hK=>?_) ?_
    ·have e89:=hs.v 2 89 hd;have g89:=aZ e89;clear hs;have hse:=HSE.out;go_simp;refine(jr sn yN.out _).mono ?_;rintro e2 w2 ⟨rfl,hb2⟩;exact hK () w2 sv (hR.quiet hb2)
    refine Cs (fun D _ wx hR (hDi:D 4=false) hd _ _ hs K hK=>?_) ?_
    ·have e4:=hs.o 4 (.pointer (some ⟨(w.heap.size+1),0,none⟩));have e87:=hs.v 0 87 hd;clear hs;have kb:iJ wx (w.heap.size+1) 28 #[.int .i64 0,.slice none 0 0,.slice none 0 0,.slice none 0 0,.int .i64 0]:=hR.blk 1 (by simp only[hDi]<;>rfl);have f0:=kb.frozen;have qk:=kb.cell;go_simp
     exact hK () _ sv ((hR.fH 1 (by simp only[hDi];rfl) _ _ _ _ _).congr
      (fun i=>by
       match i with
       |0 | 1 | 2 | 3 | 4=>rfl
       |q+5=>exact(if_neg (show¬(q+5=1) by omega)).symm))
    refine Cs (fun D _ wx hR _ hd _ _ hs K hK=>?_) ?_
    ·have e90:=hs.v 3 90 hd;clear hs;go_simp;exact hK () wx sv hR
    exact au.nil
   ·intro D _ wx hR hD;simp only[eG,Act.put,aO,aS,aV];have gy:Hid (St w wx [bF (.agg #[.int .i64 os,.slice A1 n1 c1,.slice A2 n2 c2,.slice A3 n3 c3,.int .i64 st]) b,ah (w.heap.size+1) 28 #[.int .i64 os,.slice A1 n1 c1,.slice A2 n2 c2,.slice A3 n3 c3,.int .i64 st]]):=af (hR.fO [2,1] (by decide) (by simp only[List.map,hD 4 (by decide)]<;>rfl));clear hR hD;have z0:=gy.out.cells 1 rfl;go_wp2;refine bodyPost_ret (v:=.tuple #[.agg #[.int .i64 os,.slice A1 n1 c1,.slice A2 n2 c2,.slice A3 n3 c3,.int .i64 st],.string ⟨(fP sn).toArray⟩]) (by simp[results,Tryz.results10,go_sem,z0]) rfl ⟨.agg #[.int .i64 os,.slice A1 n1 c1,.slice A2 n2 c2,.slice A3 n3 c3,.int .i64 st],by rw[HA.out]<;>rfl,gy.out.pick [0] (by decide) rfl rfl⟩
  by_cases h1:s.data.toList=KP
  ·have hW:=h1;clear h1 h0 hf;have HA:Bx (ans=⟨(sS b.order).toArray⟩):=Bx.mk (by rw[←hans,hW];unfold tC;rw[if_neg (by decide),if_pos rfl]);have b0:s.toList=[116,97,115,107]:=by rw[Lib.toList_data,hW];rfl
   clear hW hans;have uZ:=af (kX.out.pick [0,1,2,3,4] (by decide) rfl rfl)
   go_upto_region 20 with(fail)
   clear q0 q1 q6 f1 kX b0
   refine kS (σ:=Unit)
    (fun _ i=>match i with
     |0=>.agg #[.int .i64 os,.slice A1 n1 c1,.slice A2 n2 c2,.slice A3 n3 c3,.int .i64 st]
     |1=>.pointer (some ⟨w.heap.size,0,none⟩)
     |2=>.agg #[.int .i64 os,.slice G gn gc,.slice G' n' c']
     |3=>.string ⟨(sS b.order).toArray⟩
     |5=>.string ⟨(sS b.order).toArray⟩
     |_=>undef)
    (fun D _ wx=>Sn w wx fun i=>match i with
     |0=>some (ah w.heap.size 28 #[.int .i64 os,.slice G gn gc,.slice G' n' c',.slice D' dn dc,.int .i64 st])
     |1=>some (ah (w.heap.size+1) 28 (if D 4=true then #[.int .i64 os,.slice A1 n1 c1,.slice A2 n2 c2,.slice A3 n3 c3,.int .i64 st] else #[.int .i64 0,.slice none 0 0,.slice none 0 0,.slice none 0 0,.int .i64 0]))
     |2=>some (bF (.agg #[.int .i64 os,.slice A1 n1 c1,.slice A2 n2 c2,.slice A3 n3 c3,.int .i64 st]) b)
     |3=>some (ah g6 28 #[.int .i64 os,.slice A1 n1 c1,.slice A2 n2 c2,.slice A3 n3 c3,.int .i64 st])
     |4=>some (ah g7 26 #[.int .i64 st,.slice G gn gc,.slice G' n' c'])
     |_=>none)
    () ?_ ?_ ?_
   ·intro D hD;refine((Sn.eY uZ.out).quiet ((ai _ _).drew)).congr fun i=>?_
    match i with
    |0=>rfl
    |1=>simp only[hD 4 (by decide)];rfl
    |2 | 3 | 4=>rfl
    |q+5=>rfl
   ·refine Cs (fun D _ wx hR _ hd _ _ hs K hK=>?_) ?_
    ·have e6:=hs.o 6 (.pointer (some ⟨g6,0,none⟩));clear hs;have qk:=(hR.blk 3 rfl).cell;go_simp;exact hK () wx sv hR
    refine Cs (fun D _ wx hR _ hd _ _ hs K hK=>?_) ?_
    ·have e2:=hs.o 2 (.pointer (some ⟨w.heap.size,0,none⟩));clear hs;go_simp;exact hK () wx sv hR
    refine Cs (fun D _ wx hR _ hd _ _ hs K hK=>?_) ?_
    ·have e95:=hs.v 1 95 hd;clear hs;have qk:=(hR.blk 0 rfl).cell;go_simp;exact hK () wx sv hR
    refine Cs (fun D _ wx hR _ hd _ _ hs K hK=>?_) ?_
    ·have e96:=hs.v 2 96 hd;have g96:=aZ e96;clear hs;go_simp;refine(Fe _ b.order _ (Dp.out.up hR.below) acr.out).mono ?_;rintro e2 w2 ⟨rfl,hb2⟩;exact hK () w2 sv (hR.quiet hb2)
    refine Cs (fun D _ wx hR (hDi:D 4=false) hd _ _ hs K hK=>?_) ?_
    ·have e4:=hs.o 4 (.pointer (some ⟨(w.heap.size+1),0,none⟩));have e94:=hs.v 0 94 hd;clear hs;have kb:iJ wx (w.heap.size+1) 28 #[.int .i64 0,.slice none 0 0,.slice none 0 0,.slice none 0 0,.int .i64 0]:=hR.blk 1 (by simp only[hDi]<;>rfl);have f0:=kb.frozen;have qk:=kb.cell;go_simp
     exact hK () _ sv ((hR.fH 1 (by simp only[hDi];rfl) _ _ _ _ _).congr
      (fun i=>by
       match i with
       |0 | 1 | 2 | 3 | 4=>rfl
       |q+5=>exact(if_neg (show¬(q+5=1) by omega)).symm))
    refine Cs (fun D _ wx hR _ hd _ _ hs K hK=>?_) ?_
    ·have e97:=hs.v 3 97 hd;clear hs;go_simp;exact hK () wx sv hR
    exact au.nil
   ·intro D _ wx hR hD;simp only[eG,Act.put,aO,aS,aV];have gy:Hid (St w wx [bF (.agg #[.int .i64 os,.slice A1 n1 c1,.slice A2 n2 c2,.slice A3 n3 c3,.int .i64 st]) b,ah (w.heap.size+1) 28 #[.int .i64 os,.slice A1 n1 c1,.slice A2 n2 c2,.slice A3 n3 c3,.int .i64 st]]):=af (hR.fO [2,1] (by decide) (by simp only[List.map,hD 4 (by decide)]<;>rfl));clear hR hD;have z0:=gy.out.cells 1 rfl;go_wp2;refine bodyPost_ret (v:=.tuple #[.agg #[.int .i64 os,.slice A1 n1 c1,.slice A2 n2 c2,.slice A3 n3 c3,.int .i64 st],.string ⟨(sS b.order).toArray⟩]) (by simp[results,Tryz.results10,go_sem,z0]) rfl ⟨.agg #[.int .i64 os,.slice A1 n1 c1,.slice A2 n2 c2,.slice A3 n3 c3,.int .i64 st],by rw[HA.out]<;>rfl,gy.out.pick [0] (by decide) rfl rfl⟩
  by_cases h2:s.data.toList=KQ
  ·have hW:=h2;clear h2 h0 h1 hf;have HA:Bx (ans=⟨(iY dn).toArray⟩):=Bx.mk (by rw[←hans,hW];unfold tC;rw[if_neg (by decide),if_neg (by decide),if_pos rfl,fF.out]);have b0:s.toList=[100,111,110,101]:=by rw[Lib.toList_data,hW];rfl
   clear hW hans;have uZ:=af (kX.out.pick [0,1,2,3,4] (by decide) rfl rfl)
   go_upto_region 22 with(fail)
   clear q0 q1 q6 f1 kX b0
   refine kS (σ:=Unit)
    (fun _ i=>match i with
     |0=>.agg #[.int .i64 os,.slice A1 n1 c1,.slice A2 n2 c2,.slice A3 n3 c3,.int .i64 st]
     |1=>.pointer (some ⟨w.heap.size,3,none⟩)
     |2=>.slice D' dn dc
     |3=>.int .i64 (dn:Int)
     |4=>.string ⟨(iY dn).toArray⟩
     |6=>.string ⟨(iY dn).toArray⟩
     |_=>undef)
    (fun D _ wx=>Sn w wx fun i=>match i with
     |0=>some (ah w.heap.size 28 #[.int .i64 os,.slice G gn gc,.slice G' n' c',.slice D' dn dc,.int .i64 st])
     |1=>some (ah (w.heap.size+1) 28 (if D 5=true then #[.int .i64 os,.slice A1 n1 c1,.slice A2 n2 c2,.slice A3 n3 c3,.int .i64 st] else #[.int .i64 0,.slice none 0 0,.slice none 0 0,.slice none 0 0,.int .i64 0]))
     |2=>some (bF (.agg #[.int .i64 os,.slice A1 n1 c1,.slice A2 n2 c2,.slice A3 n3 c3,.int .i64 st]) b)
     |3=>some (ah g6 28 #[.int .i64 os,.slice A1 n1 c1,.slice A2 n2 c2,.slice A3 n3 c3,.int .i64 st])
     |4=>some (ah g7 26 #[.int .i64 st,.slice G gn gc,.slice G' n' c'])
     |_=>none)
    () ?_ ?_ ?_
   ·intro D hD;refine((Sn.eY uZ.out).quiet ((ai _ _).drew)).congr fun i=>?_
    match i with
    |0=>rfl
    |1=>simp only[hD 5 (by decide)];rfl
    |2 | 3 | 4=>rfl
    |q+5=>rfl
   ·refine Cs (fun D _ wx hR _ hd _ _ hs K hK=>?_) ?_
    ·have e6:=hs.o 6 (.pointer (some ⟨g6,0,none⟩));clear hs;have qk:=(hR.blk 3 rfl).cell;go_simp;exact hK () wx sv hR
    refine Cs (fun D _ wx hR _ hd _ _ hs K hK=>?_) ?_
    ·have e2:=hs.o 2 (.pointer (some ⟨w.heap.size,0,none⟩));clear hs;go_simp;exact hK () wx sv hR
    refine Cs (fun D _ wx hR _ hd _ _ hs K hK=>?_) ?_
    ·have afM:=hs.v 1 102 hd;clear hs;have qk:=(hR.blk 0 rfl).cell;go_simp;exact hK () wx sv hR
    refine Cs (fun D _ wx hR _ hd _ _ hs K hK=>?_) ?_
    ·have ad1:=hs.v 2 103 hd;have afN:=aZ ad1;clear hs;go_simp;exact hK () wx sv hR
    refine Cs (fun D _ wx hR _ hd _ _ hs K hK=>?_) ?_
    ·have ad2:=hs.v 3 104 hd;have afO:=aZ ad2;clear hs;go_simp;refine(kJ dn HDB.out _).mono ?_;rintro e2 w2 ⟨rfl,hb2⟩;exact hK () w2 sv (hR.quiet hb2)
    refine Cs (fun D _ wx hR (hDi:D 5=false) hd _ _ hs K hK=>?_) ?_
    ·have e4:=hs.o 4 (.pointer (some ⟨(w.heap.size+1),0,none⟩));have afP:=hs.v 0 101 hd;clear hs;have kb:iJ wx (w.heap.size+1) 28 #[.int .i64 0,.slice none 0 0,.slice none 0 0,.slice none 0 0,.int .i64 0]:=hR.blk 1 (by simp only[hDi]<;>rfl);have f0:=kb.frozen;have qk:=kb.cell;go_simp
     exact hK () _ sv ((hR.fH 1 (by simp only[hDi];rfl) _ _ _ _ _).congr
      (fun i=>by
       match i with
       |0 | 1 | 2 | 3 | 4=>rfl
       |q+5=>exact(if_neg (show¬(q+5=1) by omega)).symm))
    refine Cs (fun D _ wx hR _ hd _ _ hs K hK=>?_) ?_
    ·have afQ:=hs.v 4 105 hd;clear hs;go_simp;exact hK () wx sv hR
    exact au.nil
   ·intro D _ wx hR hD;simp only[eG,Act.put,aO,aS,aV];have gy:Hid (St w wx [bF (.agg #[.int .i64 os,.slice A1 n1 c1,.slice A2 n2 c2,.slice A3 n3 c3,.int .i64 st]) b,ah (w.heap.size+1) 28 #[.int .i64 os,.slice A1 n1 c1,.slice A2 n2 c2,.slice A3 n3 c3,.int .i64 st]]):=af (hR.fO [2,1] (by decide) (by simp only[List.map,hD 5 (by decide)]<;>rfl));clear hR hD;have z0:=gy.out.cells 1 rfl;go_wp2;refine bodyPost_ret (v:=.tuple #[.agg #[.int .i64 os,.slice A1 n1 c1,.slice A2 n2 c2,.slice A3 n3 c3,.int .i64 st],.string ⟨(iY dn).toArray⟩]) (by simp[results,Tryz.results10,go_sem,z0]) rfl ⟨.agg #[.int .i64 os,.slice A1 n1 c1,.slice A2 n2 c2,.slice A3 n3 c3,.int .i64 st],by rw[HA.out]<;>rfl,gy.out.pick [0] (by decide) rfl rfl⟩
  by_cases h3:s.data.toList=U4
  ·have hW:=h3;clear h3 h0 h1 h2 hf;have HAM:Bx (ans=⟨(Oi xs).toArray⟩):=Bx.mk (by rw[←hans,hW];unfold tC;rw[if_neg (by decide),if_neg (by decide),if_neg (by decide),if_pos rfl,jX.out,HMY.out]);have b0:s.toList=[109,97,121]:=by rw[Lib.toList_data,hW];rfl
   clear hW hans;obtain⟨xl,hxl⟩:∃x,xs.length=x:=⟨_,rfl⟩;have Vw:=af hxl;rw[hxl] at adY;have Fb:Hid (St w w7 [ah w.heap.size 28 #[.int .i64 os,.slice G gn gc,.slice G' n' c',.slice D' dn dc,.int .i64 st],ah (w.heap.size+1) 28 #[.int .i64 0,.slice none 0 0,.slice none 0 0,.slice none 0 0,.int .i64 0],bF (.agg #[.int .i64 os,.slice A1 n1 c1,.slice A2 n2 c2,.slice A3 n3 c3,.int .i64 st]) b,ah g6 28 #[.int .i64 os,.slice A1 n1 c1,.slice A2 n2 c2,.slice A3 n3 c3,.int .i64 st],aA (.slice A7 xl d7) xs]):=af (by rw[←hxl];exact kX.out.pick [0,1,2,3,8] (by decide) rfl rfl);rw[hxl];clear hxl
   by_cases h0:xl=0
   ·have HA:Bx (ans=⟨zM.toArray⟩):=Bx.mk (by rw[HAM.out,List.length_eq_zero_iff.1 (Vw.out.trans h0)];rfl);have h0i:((xl:Int) == 0)=true:=by rw[h0];rfl
    have gy:=af ((kX.out.fH 1 rfl (.int .i64 os) (.slice A1 n1 c1) (.slice A2 n2 c2) (.slice A3 n3 c3) (.int .i64 st)).pick [2,1] (by decide) rfl rfl);go_wp2;have z0:=gy.out.cells 1 rfl;refine bodyPost_ret (v:=.tuple #[.agg #[.int .i64 os,.slice A1 n1 c1,.slice A2 n2 c2,.slice A3 n3 c3,.int .i64 st],.string ⟨#[110,111,110,101]⟩]) (by simp[results,Tryz.results10,go_sem,z0]) rfl ⟨.agg #[.int .i64 os,.slice A1 n1 c1,.slice A2 n2 c2,.slice A3 n3 c3,.int .i64 st],by rw[HA.out]<;>rfl,gy.out.pick [0] (by decide) rfl rfl⟩
   have h0i:((xl:Int) == 0)=false:=beq_false_of_ne (by omega);have h0l:0<xl:=by omega
   clear h0 kX;obtain⟨gm,rfl⟩:=wY (Fb.out.acp 4 rfl Vw.out) (by omega);obtain⟨x0,hx0⟩:∃x,xs[0]? =some x:=⟨_,bD (by rw[Vw.out];exact h0l)⟩;have r0:=(Fb.out.aco 4 rfl Vw.out 0 x0 hx0);have acu:=HXB.out x0 (bU hx0);have VQ:=af (GK hx0);obtain⟨m0,rfl⟩:=bI acu.1;have HMB:Hid (m0<100000000000):=af (by omega);clear hx0 acu
   go_wp2_with fail
   refine(kJ m0 HMB.out _).mono ?_;rintro e w8 ⟨rfl,hb8⟩;have uZ:=af (Fb.out.quiet hb8);clear hb8 Fb q0 q1 q6 f1 r0;go_wp2
   go_loopw [18,19] (fun a i wr=>∃(k:Nat) (X:ByteArray),1≤k∧k≤xl∧i= .int .i64 (k:Int)∧a= .string X∧Bx (X=⟨(qE (xs.take k)).toArray⟩)∧St w wr [ah w.heap.size 28 #[.int .i64 os,.slice G gn gc,.slice G' n' c',.slice D' dn dc,.int .i64 st],ah (w.heap.size+1) 28 #[.int .i64 0,.slice none 0 0,.slice none 0 0,.slice none 0 0,.int .i64 0],bF (.agg #[.int .i64 os,.slice A1 n1 c1,.slice A2 n2 c2,.slice A3 n3 c3,.int .i64 st]) b,ah g6 28 #[.int .i64 os,.slice A1 n1 c1,.slice A2 n2 c2,.slice A3 n3 c3,.int .i64 st],aA (.slice (some ⟨gm,0,none⟩) xl d7) xs]) (fun _ i _=>xl-(intOf i).toNat)
   case atStart=>exact⟨1,_,by omega,by omega,rfl,rfl,Bx.mk (by rw[VQ.out];rfl),uZ.out⟩
   case round=>
    clear uZ;obtain⟨k,X,hk1,hk,rfl,rfl,HX,S⟩:=hrel;have HS:=af S;clear S
    by_cases hlt:k<xl
    ·obtain⟨x,hx⟩:∃x,xs[k]? =some x:=⟨_,bD (by rw[Vw.out];exact hlt)⟩;have r0:=(HS.out.aco 4 rfl Vw.out k x hx);have hxb:=HXB.out x (bU hx);obtain⟨kk,rfl⟩:∃kk,k=kk+1:=⟨k-1,by omega⟩;have gY:=af (GL hx);obtain⟨m,rfl⟩:=bI hxb.1;have ad3:Hid (m<100000000000):=af (by omega)
     have hXs:X.size≤100:=by
      have h1:=LK (xs:=xs.take (kk+1)) (fun x hx=>HXB.out x (List.mem_of_mem_take hx));rw[HX.out]
      show(qE (xs.take (kk+1))).toArray.size≤_
      rw[List.size_toArray];simp only[List.length_take] at h1;omega
     have hds:(⟨(iY m).toArray⟩:ByteArray).size≤100:=by
      show(iY m).toArray.size≤_
      have:=pz 1 m (by omega)
      rw[List.size_toArray];omega
     have yM:=af hds;have hc1:¬9223372036854775807<X.size+1:=by omega
     have hc2:¬9223372036854775807<X.size+1+(⟨(iY m).toArray⟩:ByteArray).size:=by omega
     have HX2:Bx (X++⟨#[44]⟩++⟨(iY m).toArray⟩=⟨(qE (xs.take (kk+2))).toArray⟩):=Bx.mk (by rw[HX.out,gY.out,show(⟨#[44]⟩:ByteArray)=⟨[44].toArray⟩ from rfl,iw,iw,List.append_assoc];rfl);clear hx hxb hds hXs
     go_wp2_with fail
     refine(kJ m ad3.out _).mono ?_;rintro e w9 ⟨rfl,hb9⟩;have gy:=af (HS.out.quiet hb9);clear hb9 r0;go_wp2
     go_roundw
     case rel=>exact⟨kk+2,_,by omega,by omega,by go_num,rfl,HX2,gy.out⟩
     case measure=>simp[intOf];omega
    ·obtain rfl:k=xl:=by omega
     have HA:Bx (ans=X):=Bx.mk (by rw[HAM.out,HX.out,dJ (by rw[Vw.out];omega),LJ (by intro h;have:=Vw.out;rw[h] at this;simp at this;omega)]);have q1:=HS.out.cells 1 rfl;have q6:=HS.out.cells 3 rfl;have f1:=HS.out.free 1 rfl;have gy:=af ((HS.out.fH 1 rfl (.int .i64 os) (.slice A1 n1 c1) (.slice A2 n2 c2) (.slice A3 n3 c3) (.int .i64 st)).pick [2,1] (by decide) rfl rfl);go_wp2;have z0:=gy.out.cells 1 rfl;refine bodyPost_ret (v:=.tuple #[.agg #[.int .i64 os,.slice A1 n1 c1,.slice A2 n2 c2,.slice A3 n3 c3,.int .i64 st],.string X]) (by simp[results,Tryz.results10,go_sem,z0]) rfl ⟨.agg #[.int .i64 os,.slice A1 n1 c1,.slice A2 n2 c2,.slice A3 n3 c3,.int .i64 st],by rw[HA.out]<;>rfl,gy.out.pick [0] (by decide) rfl rfl⟩
  by_cases h4:s.data.toList=KR
  ·have hW:=h4;clear h4 h0 h1 h2 h3 hf;have b0:s.toList=[108,101,102,116]:=by rw[Lib.toList_data,hW];rfl
   have uY:Bx (ans=⟨(PI ro).toArray⟩):=Bx.mk (by rw[←hans,hW];unfold tC;rw[if_neg (by decide),if_neg (by decide),if_neg (by decide),if_neg (by decide),if_pos rfl,Ae.out];cases ro<;>rfl);clear hW hans
   cases ro with
   |none=>
    have HA:Bx (ans=⟨zM.toArray⟩):=uY;simp only[Option.isSome_none];have gy:=af ((kX.out.fH 1 rfl (.int .i64 os) (.slice A1 n1 c1) (.slice A2 n2 c2) (.slice A3 n3 c3) (.int .i64 st)).pick [2,1] (by decide) rfl rfl);go_wp2;have z0:=gy.out.cells 1 rfl;refine bodyPost_ret (v:=.tuple #[.agg #[.int .i64 os,.slice A1 n1 c1,.slice A2 n2 c2,.slice A3 n3 c3,.int .i64 st],.string ⟨#[110,111,110,101]⟩]) (by simp[results,Tryz.results10,go_sem,z0]) rfl ⟨.agg #[.int .i64 os,.slice A1 n1 c1,.slice A2 n2 c2,.slice A3 n3 c3,.int .i64 st],by rw[HA.out]<;>rfl,gy.out.pick [0] (by decide) rfl rfl⟩
   |some p=>
    obtain⟨pn,hpn⟩:∃x,p.length=x:=⟨_,rfl⟩;have HA:Bx (ans=⟨(iY pn).toArray⟩):=Bx.mk (by rw[uY.out,PI,hpn]);have ZR:Hid (pn<100000000000):=af (by have:=yj b;rw[Ae.out] at this;simp at this;omega);simp only[Option.isSome_some,Option.getD_some] at kX ⊢
    rw[hpn];clear hpn uY;have uZ:=af (kX.out.pick [0,1,2,3,4] (by decide) rfl rfl)
    go_upto_region 33 with(fail)
    clear q0 q1 q6 f1 kX b0
    refine kS (σ:=Unit)
     (fun _ i=>match i with
      |0=>.agg #[.int .i64 os,.slice A1 n1 c1,.slice A2 n2 c2,.slice A3 n3 c3,.int .i64 st]
      |1=>.slice A5 pn d5
      |2=>.int .i64 (pn:Int)
      |3=>.string ⟨(iY pn).toArray⟩
      |5=>.string ⟨(iY pn).toArray⟩
      |_=>undef)
     (fun D _ wx=>Sn w wx fun i=>match i with
      |0=>some (ah w.heap.size 28 #[.int .i64 os,.slice G gn gc,.slice G' n' c',.slice D' dn dc,.int .i64 st])
      |1=>some (ah (w.heap.size+1) 28 (if D 4=true then #[.int .i64 os,.slice A1 n1 c1,.slice A2 n2 c2,.slice A3 n3 c3,.int .i64 st] else #[.int .i64 0,.slice none 0 0,.slice none 0 0,.slice none 0 0,.int .i64 0]))
      |2=>some (bF (.agg #[.int .i64 os,.slice A1 n1 c1,.slice A2 n2 c2,.slice A3 n3 c3,.int .i64 st]) b)
      |3=>some (ah g6 28 #[.int .i64 os,.slice A1 n1 c1,.slice A2 n2 c2,.slice A3 n3 c3,.int .i64 st])
      |4=>some (ah g7 26 #[.int .i64 st,.slice G gn gc,.slice G' n' c'])
      |_=>none)
     () ?_ ?_ ?_
    ·intro D hD;refine((Sn.eY uZ.out).quiet ((ai _ _).drew)).congr fun i=>?_
     match i with
     |0=>rfl
     |1=>simp only[hD 4 (by decide)];rfl
     |2 | 3 | 4=>rfl
     |q+5=>rfl
    ·refine Cs (fun D _ wx hR _ hd _ _ hs K hK=>?_) ?_
     ·have e6:=hs.o 6 (.pointer (some ⟨g6,0,none⟩));clear hs;have qk:=(hR.blk 3 rfl).cell;go_simp;exact hK () wx sv hR
     refine Cs (fun D _ wx hR _ hd _ _ hs K hK=>?_) ?_
     ·have e10:=hs.o 10 (.slice A5 pn d5);clear hs;go_simp;exact hK () wx sv hR
     refine Cs (fun D _ wx hR _ hd _ _ hs K hK=>?_) ?_
     ·have ad4:=hs.v 1 150 hd;have afR:=aZ ad4;clear hs;go_simp;exact hK () wx sv hR
     refine Cs (fun D _ wx hR _ hd _ _ hs K hK=>?_) ?_
     ·have ad5:=hs.v 2 151 hd;have afS:=aZ ad5;clear hs;go_simp;refine(kJ pn ZR.out _).mono ?_;rintro e2 w2 ⟨rfl,hb2⟩;exact hK () w2 sv (hR.quiet hb2)
     refine Cs (fun D _ wx hR (hDi:D 4=false) hd _ _ hs K hK=>?_) ?_
     ·have e4:=hs.o 4 (.pointer (some ⟨(w.heap.size+1),0,none⟩));have afT:=hs.v 0 149 hd;clear hs;have kb:iJ wx (w.heap.size+1) 28 #[.int .i64 0,.slice none 0 0,.slice none 0 0,.slice none 0 0,.int .i64 0]:=hR.blk 1 (by simp only[hDi]<;>rfl);have f0:=kb.frozen;have qk:=kb.cell;go_simp
      exact hK () _ sv ((hR.fH 1 (by simp only[hDi];rfl) _ _ _ _ _).congr
       (fun i=>by
        match i with
        |0 | 1 | 2 | 3 | 4=>rfl
        |q+5=>exact(if_neg (show¬(q+5=1) by omega)).symm))
     refine Cs (fun D _ wx hR _ hd _ _ hs K hK=>?_) ?_
     ·have e152:=hs.v 3 152 hd;clear hs;go_simp;exact hK () wx sv hR
     exact au.nil
    ·intro D _ wx hR hD;simp only[eG,Act.put,aO,aS,aV];have gy:Hid (St w wx [bF (.agg #[.int .i64 os,.slice A1 n1 c1,.slice A2 n2 c2,.slice A3 n3 c3,.int .i64 st]) b,ah (w.heap.size+1) 28 #[.int .i64 os,.slice A1 n1 c1,.slice A2 n2 c2,.slice A3 n3 c3,.int .i64 st]]):=af (hR.fO [2,1] (by decide) (by simp only[List.map,hD 4 (by decide)]<;>rfl));clear hR hD;have z0:=gy.out.cells 1 rfl;go_wp2;refine bodyPost_ret (v:=.tuple #[.agg #[.int .i64 os,.slice A1 n1 c1,.slice A2 n2 c2,.slice A3 n3 c3,.int .i64 st],.string ⟨(iY pn).toArray⟩]) (by simp[results,Tryz.results10,go_sem,z0]) rfl ⟨.agg #[.int .i64 os,.slice A1 n1 c1,.slice A2 n2 c2,.slice A3 n3 c3,.int .i64 st],by rw[HA.out]<;>rfl,gy.out.pick [0] (by decide) rfl rfl⟩
  by_cases h5:s.data.toList=DJ
  ·have hW:=h5;clear h5 h0 h1 h2 h3 h4 hf;obtain⟨be,hbe⟩:∃x,iF b=x:=⟨_,rfl⟩;have XU:=Bx.mk hbe;have HA:Bx (ans=yI be ⟨#[121,101,115]⟩):=Bx.mk (by rw[←hans,hW];unfold tC;rw[if_neg (by decide),if_neg (by decide),if_neg (by decide),if_neg (by decide),if_neg (by decide),if_pos rfl,hbe];cases be<;>rfl);have b0:s.toList=[101,110,100,101,100]:=by rw[Lib.toList_data,hW];rfl
   clear hW hans hbe;have uZ:=af (kX.out.pick [0,1,2,3,4] (by decide) rfl rfl)
   go_upto_region 35 with(fail)
   clear q0 q1 q6 f1 kX b0
   refine kS (σ:=Unit)
    (fun _ i=>match i with
     |0=>.agg #[.int .i64 os,.slice A1 n1 c1,.slice A2 n2 c2,.slice A3 n3 c3,.int .i64 st]
     |1=>.agg #[.int .i64 os,.slice G gn gc,.slice G' n' c',.slice D' dn dc,.int .i64 st]
     |2=>.bool be
     |3=>.string (yI be ⟨#[121,101,115]⟩)
     |5=>.string (yI be ⟨#[121,101,115]⟩)
     |_=>undef)
    (fun D _ wx=>Sn w wx fun i=>match i with
     |0=>some (ah w.heap.size 28 #[.int .i64 os,.slice G gn gc,.slice G' n' c',.slice D' dn dc,.int .i64 st])
     |1=>some (ah (w.heap.size+1) 28 (if D 4=true then #[.int .i64 os,.slice A1 n1 c1,.slice A2 n2 c2,.slice A3 n3 c3,.int .i64 st] else #[.int .i64 0,.slice none 0 0,.slice none 0 0,.slice none 0 0,.int .i64 0]))
     |2=>some (bF (.agg #[.int .i64 os,.slice A1 n1 c1,.slice A2 n2 c2,.slice A3 n3 c3,.int .i64 st]) b)
     |3=>some (ah g6 28 #[.int .i64 os,.slice A1 n1 c1,.slice A2 n2 c2,.slice A3 n3 c3,.int .i64 st])
     |4=>some (ah g7 26 #[.int .i64 st,.slice G gn gc,.slice G' n' c'])
     |_=>none)
    () ?_ ?_ ?_
   ·intro D hD;refine((Sn.eY uZ.out).quiet ((ai _ _).drew)).congr fun i=>?_
    match i with
    |0=>rfl
    |1=>simp only[hD 4 (by decide)];rfl
    |2 | 3 | 4=>rfl
    |q+5=>rfl
   ·refine Cs (fun D _ wx hR _ hd _ _ hs K hK=>?_) ?_
    ·have e6:=hs.o 6 (.pointer (some ⟨g6,0,none⟩));clear hs;have qk:=(hR.blk 3 rfl).cell;go_simp;exact hK () wx sv hR
    refine Cs (fun D _ wx hR _ hd _ _ hs K hK=>?_) ?_
    ·have e2:=hs.o 2 (.pointer (some ⟨w.heap.size,0,none⟩));clear hs;have qk:=(hR.blk 0 rfl).cell;go_simp;exact hK () wx sv hR
    refine Cs (fun D _ wx hR _ hd _ _ hs K hK=>?_) ?_
    ·have ad6:=hs.v 1 157 hd;have afU:=aZ ad6;clear hs;go_simp;refine(uH _ b _ (HB.out.up hR.below)).mono ?_;rw[XU.out];rintro e2 w2 ⟨rfl,hb2⟩;exact hK () w2 sv (hR.quiet hb2)
    refine Cs (fun D _ wx hR _ hd _ _ hs K hK=>?_) ?_
    ·have ad7:=hs.v 2 158 hd;have afV:=aZ ad7;clear hs;go_simp;refine(AO be ⟨#[121,101,115]⟩ _).mono ?_;rintro e2 w2 ⟨rfl,rfl⟩;exact hK () wx sv hR
    refine Cs (fun D _ wx hR (hDi:D 4=false) hd _ _ hs K hK=>?_) ?_
    ·have e4:=hs.o 4 (.pointer (some ⟨(w.heap.size+1),0,none⟩));have afW:=hs.v 0 156 hd;clear hs;have kb:iJ wx (w.heap.size+1) 28 #[.int .i64 0,.slice none 0 0,.slice none 0 0,.slice none 0 0,.int .i64 0]:=hR.blk 1 (by simp only[hDi]<;>rfl);have f0:=kb.frozen;have qk:=kb.cell;go_simp
     exact hK () _ sv ((hR.fH 1 (by simp only[hDi];rfl) _ _ _ _ _).congr
      (fun i=>by
       match i with
       |0 | 1 | 2 | 3 | 4=>rfl
       |q+5=>exact(if_neg (show¬(q+5=1) by omega)).symm))
    refine Cs (fun D _ wx hR _ hd _ _ hs K hK=>?_) ?_
    ·have afX:=hs.v 3 159 hd;clear hs;go_simp;exact hK () wx sv hR
    exact au.nil
   ·intro D _ wx hR hD;simp only[eG,Act.put,aO,aS,aV];have gy:Hid (St w wx [bF (.agg #[.int .i64 os,.slice A1 n1 c1,.slice A2 n2 c2,.slice A3 n3 c3,.int .i64 st]) b,ah (w.heap.size+1) 28 #[.int .i64 os,.slice A1 n1 c1,.slice A2 n2 c2,.slice A3 n3 c3,.int .i64 st]]):=af (hR.fO [2,1] (by decide) (by simp only[List.map,hD 4 (by decide)]<;>rfl));clear hR hD;have z0:=gy.out.cells 1 rfl;go_wp2;refine bodyPost_ret (v:=.tuple #[.agg #[.int .i64 os,.slice A1 n1 c1,.slice A2 n2 c2,.slice A3 n3 c3,.int .i64 st],.string (yI be ⟨#[121,101,115]⟩)]) (by simp[results,Tryz.results10,go_sem,z0]) rfl ⟨.agg #[.int .i64 os,.slice A1 n1 c1,.slice A2 n2 c2,.slice A3 n3 c3,.int .i64 st],by rw[HA.out]<;>rfl,gy.out.pick [0] (by decide) rfl rfl⟩
  by_cases h6:s.data.toList=DK
  ·have hW:=h6;clear h6 h0 h1 h2 h3 h4 h5 hf;have HA:Bx (ans=⟨(jC (dB b)).toArray⟩):=Bx.mk (by rw[←hans,hW];unfold tC;rw[if_neg (by decide),if_neg (by decide),if_neg (by decide),if_neg (by decide),if_neg (by decide),if_neg (by decide),if_pos rfl]);have b0:s.toList=[112,114,111,111,102]:=by rw[Lib.toList_data,hW];rfl
   clear hW hans;have uZ:=af (kX.out.pick [0,1,2,3,4] (by decide) rfl rfl)
   go_upto_region 37 with(fail)
   clear q0 q1 q6 f1 kX b0
   refine kS (σ:=Unit)
    (fun _ i=>match i with
     |0=>.agg #[.int .i64 os,.slice A1 n1 c1,.slice A2 n2 c2,.slice A3 n3 c3,.int .i64 st]
     |1=>.agg #[.int .i64 st,.slice G gn gc,.slice G' n' c']
     |2=>.string ⟨(jC (dB b)).toArray⟩
     |4=>.string ⟨(jC (dB b)).toArray⟩
     |_=>undef)
    (fun D _ wx=>Sn w wx fun i=>match i with
     |0=>some (ah w.heap.size 28 #[.int .i64 os,.slice G gn gc,.slice G' n' c',.slice D' dn dc,.int .i64 st])
     |1=>some (ah (w.heap.size+1) 28 (if D 3=true then #[.int .i64 os,.slice A1 n1 c1,.slice A2 n2 c2,.slice A3 n3 c3,.int .i64 st] else #[.int .i64 0,.slice none 0 0,.slice none 0 0,.slice none 0 0,.int .i64 0]))
     |2=>some (bF (.agg #[.int .i64 os,.slice A1 n1 c1,.slice A2 n2 c2,.slice A3 n3 c3,.int .i64 st]) b)
     |3=>some (ah g6 28 #[.int .i64 os,.slice A1 n1 c1,.slice A2 n2 c2,.slice A3 n3 c3,.int .i64 st])
     |4=>some (ah g7 26 #[.int .i64 st,.slice G gn gc,.slice G' n' c'])
     |_=>none)
    () ?_ ?_ ?_
   ·intro D hD;refine((Sn.eY uZ.out).quiet ((ai _ _).drew)).congr fun i=>?_
    match i with
    |0=>rfl
    |1=>simp only[hD 3 (by decide)];rfl
    |2 | 3 | 4=>rfl
    |q+5=>rfl
   ·refine Cs (fun D _ wx hR _ hd _ _ hs K hK=>?_) ?_
    ·have e6:=hs.o 6 (.pointer (some ⟨g6,0,none⟩));clear hs;have qk:=(hR.blk 3 rfl).cell;go_simp;exact hK () wx sv hR
    refine Cs (fun D _ wx hR _ hd _ _ hs K hK=>?_) ?_
    ·have e7:=hs.o 7 (.pointer (some ⟨g7,0,none⟩));clear hs;have qk:=(hR.blk 4 rfl).cell;go_simp;exact hK () wx sv hR
    refine Cs (fun D _ wx hR _ hd _ _ hs K hK=>?_) ?_
    ·have ad8:=hs.v 1 164 hd;have afY:=aZ ad8;clear hs;go_simp;refine(Em _ (dB b) _ (Rl.out.up hR.below) acs.out).mono ?_;rintro e2 w2 ⟨rfl,hb2⟩;exact hK () w2 sv (hR.quiet hb2)
    refine Cs (fun D _ wx hR (hDi:D 3=false) hd _ _ hs K hK=>?_) ?_
    ·have e4:=hs.o 4 (.pointer (some ⟨(w.heap.size+1),0,none⟩));have afZ:=hs.v 0 163 hd;clear hs;have kb:iJ wx (w.heap.size+1) 28 #[.int .i64 0,.slice none 0 0,.slice none 0 0,.slice none 0 0,.int .i64 0]:=hR.blk 1 (by simp only[hDi]<;>rfl);have f0:=kb.frozen;have qk:=kb.cell;go_simp
     exact hK () _ sv ((hR.fH 1 (by simp only[hDi];rfl) _ _ _ _ _).congr
      (fun i=>by
       match i with
       |0 | 1 | 2 | 3 | 4=>rfl
       |q+5=>exact(if_neg (show¬(q+5=1) by omega)).symm))
    refine Cs (fun D _ wx hR _ hd _ _ hs K hK=>?_) ?_
    ·have e165:=hs.v 2 165 hd;clear hs;go_simp;exact hK () wx sv hR
    exact au.nil
   ·intro D _ wx hR hD;simp only[eG,Act.put,aO,aS,aV];have gy:Hid (St w wx [bF (.agg #[.int .i64 os,.slice A1 n1 c1,.slice A2 n2 c2,.slice A3 n3 c3,.int .i64 st]) b,ah (w.heap.size+1) 28 #[.int .i64 os,.slice A1 n1 c1,.slice A2 n2 c2,.slice A3 n3 c3,.int .i64 st]]):=af (hR.fO [2,1] (by decide) (by simp only[List.map,hD 3 (by decide)]<;>rfl));clear hR hD;have z0:=gy.out.cells 1 rfl;go_wp2;refine bodyPost_ret (v:=.tuple #[.agg #[.int .i64 os,.slice A1 n1 c1,.slice A2 n2 c2,.slice A3 n3 c3,.int .i64 st],.string ⟨(jC (dB b)).toArray⟩]) (by simp[results,Tryz.results10,go_sem,z0]) rfl ⟨.agg #[.int .i64 os,.slice A1 n1 c1,.slice A2 n2 c2,.slice A3 n3 c3,.int .i64 st],by rw[HA.out]<;>rfl,gy.out.pick [0] (by decide) rfl rfl⟩
  have b0:(s.toList == [102,105,110,105,115,104])=false:=by rw[cO,Lib.toList_data];intro h;exact hf (beq_iff_eq.1 h)
  have b1:(s.toList == [115,116,97,116,101])=false:=by rw[cO,Lib.toList_data];intro h;exact h0 (beq_iff_eq.1 h)
  have b2:(s.toList == [116,97,115,107])=false:=by rw[cO,Lib.toList_data];intro h;exact h1 (beq_iff_eq.1 h)
  have b3:(s.toList == [100,111,110,101])=false:=by rw[cO,Lib.toList_data];intro h;exact h2 (beq_iff_eq.1 h)
  have b4:(s.toList == [109,97,121])=false:=by rw[cO,Lib.toList_data];intro h;exact h3 (beq_iff_eq.1 h)
  have b5:(s.toList == [108,101,102,116])=false:=by rw[cO,Lib.toList_data];intro h;exact h4 (beq_iff_eq.1 h)
  have b6:(s.toList == [101,110,100,101,100])=false:=by rw[cO,Lib.toList_data];intro h;exact h5 (beq_iff_eq.1 h)
  have b7:(s.toList == [112,114,111,111,102])=false:=by rw[cO,Lib.toList_data];intro h;exact h6 (beq_iff_eq.1 h)
  have L6:=af (show(s.extract 0 6).data.toList=s.data.toList.take 6 by rw[Lib.extract_eq];simp)
  by_cases h6s:6<s.size
  ·have c6:(6:Int)<(s.size:Int):=by omega
   have c6':(6:Int)≤(s.size:Int):=by omega
   cases hcw:((s.extract 0 6).toList == [99,104,101,99,107,32]) with
   |true=>
    have hck:pI.isPrefixOf s.data.toList=true:=by
     rw[List.isPrefixOf_iff_prefix]
     have:=beq_iff_eq.1 hcw
     rw[Lib.toList_data,L6.out] at this;exact⟨s.data.toList.drop 6,(congrArg (· ++s.data.toList.drop 6) this.symm).trans (List.take_append_drop 6 _)⟩
    obtain⟨rb,hrb⟩:∃x,s.extract 6 s.size=x:=⟨_,rfl⟩;have X5:=Bx.mk hrb;have hrd:rb.data.toList=s.data.toList.drop 6:=by rw[←hrb,Lib.extract_eq];exact dJ (by rw[List.length_drop,←Lib.size_eq];exact ay _)
    have ad9:Hid (rb.size≤1099511627776):=af (by have:=Il.out;rw[Lib.size_eq,hrd,List.length_drop,←Lib.size_eq];omega);obtain⟨z,hz⟩:∃z,bT (dB b) rb.data.toList=z:=⟨_,rfl⟩;have HZ:=Bx.mk hz;have HA0:Bx (ans=⟨(pJ z).toArray⟩):=Bx.mk (by rw[←hans];unfold tC;rw[if_neg h0,if_neg h1,if_neg h2,if_neg h3,if_neg h4,if_neg h5,if_neg h6,if_pos ⟨hck,by rw[←Lib.size_eq];exact h6s⟩,←hrd,hz])
    obtain⟨zi,vs,h1z,h2z,h3z,h4z⟩:∃(zi:Nat) (vs:ByteArray),z+1=(zi:Int)∧zi<3∧ans=vs∧(#[Value.string ⟨#[110,111,116,104,105,110,103]⟩,Value.string ⟨#[99,97,110,110,111,116]⟩,Value.string ⟨#[99,97,110]⟩]:Array Value)[zi]? =some (.string vs):=by
     rcases zI (dB b) rb.data.toList with h | h | h
     all_goals (rw[hz] at h;subst h)
     ·exact⟨0,_,by omega,by omega,HA0.out,rfl⟩
     ·exact⟨1,_,by omega,by omega,HA0.out,rfl⟩
     ·exact⟨2,_,by omega,by omega,HA0.out,rfl⟩
    have HZI:=af h1z;have SV:=af h2z;have HA:Bx (ans=vs):=Bx.mk h3z;have HVS:=af h4z;have HZW:Hid (IntKind.i64.wrap (zi:Int)=(zi:Int)):=af (by rw[IntKind.wrap_i64]<;>omega);have HC6:=af c6';clear hrb hrd hz h1z h2z h3z h4z hck h6s hans h0 h1 h2 h3 h4 h5 h6 hf;have uZ:=af (kX.out.pick [0,1,2,3,4] (by decide) rfl rfl)
    go_upto_region 39 with(fail)
    clear q0 q1 q6 f1 kX b0 b1 b2 b3 b4 b5 b6 b7 c6 c6' hcw
    refine kS (σ:=Nat)
     (fun sg i=>match i with
      |0=>.agg #[.int .i64 os,.slice A1 n1 c1,.slice A2 n2 c2,.slice A3 n3 c3,.int .i64 st]
      |1=>.slice (some ⟨sg,0,none⟩) 3 3
      |2=>.agg #[.int .i64 st,.slice G gn gc,.slice G' n' c']
      |3=>.string s
      |4=>.string rb
      |5=>.int .i64 z
      |6=>.int .i64 (zi:Int)
      |7=>.pointer (some ⟨sg,zi,none⟩)
      |8=>.string vs
      |10=>.string vs
      |_=>undef)
     (fun D sg wx=>Sn w wx fun i=>match i with
      |0=>some (ah w.heap.size 28 #[.int .i64 os,.slice G gn gc,.slice G' n' c',.slice D' dn dc,.int .i64 st])
      |1=>some (ah (w.heap.size+1) 28 (if D 9=true then #[.int .i64 os,.slice A1 n1 c1,.slice A2 n2 c2,.slice A3 n3 c3,.int .i64 st] else #[.int .i64 0,.slice none 0 0,.slice none 0 0,.slice none 0 0,.int .i64 0]))
      |2=>some (bF (.agg #[.int .i64 os,.slice A1 n1 c1,.slice A2 n2 c2,.slice A3 n3 c3,.int .i64 st]) b)
      |3=>some (ah g6 28 #[.int .i64 os,.slice A1 n1 c1,.slice A2 n2 c2,.slice A3 n3 c3,.int .i64 st])
      |4=>some (ah g7 26 #[.int .i64 st,.slice G gn gc,.slice G' n' c'])
      |5=>if D 1=true then some (ah sg 9 #[.string ⟨#[110,111,116,104,105,110,103]⟩,.string ⟨#[99,97,110,110,111,116]⟩,.string ⟨#[99,97,110]⟩]) else none
      |_=>none)
     0 ?_ ?_ ?_
    ·intro D hD;refine((Sn.eY uZ.out).quiet ((ai _ _).drew)).congr fun i=>?_
     match i with
     |0=>rfl
     |1=>simp only[hD 9 (by decide)];rfl
     |2 | 3 | 4=>rfl
     |5=>simp only[hD 1 (by decide)];rfl
     |q+6=>rfl
    ·refine Cs (fun D sg wx hR _ hd _ _ hs K hK=>?_) ?_
     ·have e6:=hs.o 6 (.pointer (some ⟨g6,0,none⟩));clear hs;have qk:=(hR.blk 3 rfl).cell;go_simp;exact hK sg wx sv hR
     refine Cs (fun D sg wx hR (hDi:D 1=false) hd hsh _ hs K hK=>?_) ?_
     ·clear hs;have n7:D 7=false:=hsh.no hDi 7 rfl ⟨1,.data⟩ (by simp) rfl rfl;go_simp
      refine hK wx.heap.size _
       (fun j hj=>by
        match j,hj with
        |0,hj=>rfl
        |1,hj=>rw[hDi] at hj;cases hj
        |2,hj | 3,hj | 4,hj | 5,hj | 6,hj=>rfl
        |7,hj=>rw[n7] at hj;cases hj
        |8,hj | 9,hj | 10,hj=>rfl
        |_+11,hj=>rfl)
       ((hR.add 5 (if_neg (by rw[hDi];simp)) (St.new1 wx #[.string ⟨#[110,111,116,104,105,110,103]⟩,.string ⟨#[99,97,110,110,111,116]⟩,.string ⟨#[99,97,110]⟩] 9)).congr
        (fun i=>by
         match i with
         |0 | 1 | 2 | 3 | 4 | 5=>rfl
         |q+6=>exact(if_neg (show¬(q+6=5) by omega)).symm))
     refine Cs (fun D sg wx hR _ hd _ _ hs K hK=>?_) ?_
     ·have e7:=hs.o 7 (.pointer (some ⟨g7,0,none⟩));clear hs;have qk:=(hR.blk 4 rfl).cell;go_simp;exact hK sg wx sv hR
     refine Cs (fun D sg wx hR _ hd _ _ hs K hK=>?_) ?_
     ·have e1:=hs.o 1 (.string s);clear hs;go_simp;exact hK sg wx sv hR
     refine Cs (fun D sg wx hR _ hd _ _ hs K hK=>?_) ?_
     ·have af0:=hs.v 3 178 hd;clear hs;have h0:=HC6.out;have hrb:=X5.out;go_simp;exact hK sg wx sv hR
     refine Cs (fun D sg wx hR _ hd _ _ hs K hK=>?_) ?_
     ·have aea:=hs.v 2 177 hd;have aeb:=hs.v 4 179 hd;have af2:=aZ aea;have af4:=aZ aeb;clear hs;go_simp;refine(Bj _ (dB b) rb _ (Rl.out.up hR.below) acs.out ad9.out).mono ?_;rw[HZ.out];rintro e2 w2 ⟨rfl,hb2⟩;exact hK sg w2 sv (hR.quiet hb2)
     refine Cs (fun D sg wx hR _ hd _ _ hs K hK=>?_) ?_
     ·have af5:=hs.v 5 180 hd;clear hs;have h0:=HZI.out;have h1:=HZW.out;go_simp;exact hK sg wx sv hR
     refine Cs (fun D sg wx hR _ hd _ _ hs K hK=>?_) ?_
     ·have af6:=hs.v 1 176 hd;have e181:=hs.v 6 181 hd;clear hs;have h0:(zi:Int)<3:=by have:=SV.out;omega
      go_simp;exact hK sg wx sv hR
     refine Cs (fun D sg wx hR _ hd hsh _ hs K hK=>?_) ?_
     ·have af7:=hs.v 7 182 hd;clear hs;have d7:D 7=true:=hd ⟨7,.data⟩ (by simp) rfl
      have d1:D 1=true:=by
       cases h1:D 1 with
       |true=>rfl
       |false=>rw[hsh.no h1 7 rfl ⟨1,.data⟩ (by simp) rfl rfl] at d7;cases d7
      have kb:iJ wx sg 9 #[.string ⟨#[110,111,116,104,105,110,103]⟩,.string ⟨#[99,97,110,110,111,116]⟩,.string ⟨#[99,97,110]⟩]:=hR.blk 5 (by simp only[d1]<;>rfl);have c0:wx.cell? ⟨sg,zi,none⟩=some (.string vs):=(kb.cell zi).trans HVS.out;go_simp;exact hK sg wx sv hR
     refine Cs (fun D sg wx hR (hDi:D 9=false) hd _ _ hs K hK=>?_) ?_
     ·have e4:=hs.o 4 (.pointer (some ⟨(w.heap.size+1),0,none⟩));have af8:=hs.v 0 175 hd;clear hs;have kb:iJ wx (w.heap.size+1) 28 #[.int .i64 0,.slice none 0 0,.slice none 0 0,.slice none 0 0,.int .i64 0]:=hR.blk 1 (by simp only[hDi]<;>rfl);have f0:=kb.frozen;have qk:=kb.cell;go_simp
      exact hK sg _ sv ((hR.fH 1 (by simp only[hDi];rfl) _ _ _ _ _).congr
       (fun i=>by
        match i with
        |0 | 1 | 2 | 3 | 4 | 5=>rfl
        |q+6=>exact(if_neg (show¬(q+6=1) by omega)).symm))
     refine Cs (fun D sg wx hR _ hd _ _ hs K hK=>?_) ?_
     ·have af9:=hs.v 8 183 hd;clear hs;go_simp;exact hK sg wx sv hR
     exact au.nil
    ·intro D sg wx hR hD;simp only[eG,Act.put,aO,aS,aV];have gy:Hid (St w wx [bF (.agg #[.int .i64 os,.slice A1 n1 c1,.slice A2 n2 c2,.slice A3 n3 c3,.int .i64 st]) b,ah (w.heap.size+1) 28 #[.int .i64 os,.slice A1 n1 c1,.slice A2 n2 c2,.slice A3 n3 c3,.int .i64 st]]):=af (hR.fO [2,1] (by decide) (by simp only[List.map,hD 9 (by decide)]<;>rfl));clear hR hD;have z0:=gy.out.cells 1 rfl;go_wp2;refine bodyPost_ret (v:=.tuple #[.agg #[.int .i64 os,.slice A1 n1 c1,.slice A2 n2 c2,.slice A3 n3 c3,.int .i64 st],.string vs]) (by simp[results,Tryz.results10,go_sem,z0]) rfl ⟨.agg #[.int .i64 os,.slice A1 n1 c1,.slice A2 n2 c2,.slice A3 n3 c3,.int .i64 st],by rw[HA.out]<;>rfl,gy.out.pick [0] (by decide) rfl rfl⟩
   |false=>
    have HA:Bx (ans=⟨Gn.toArray⟩):=Bx.mk (by
     rw[←hans];unfold tC;rw[if_neg h0,if_neg h1,if_neg h2,if_neg h3,if_neg h4,if_neg h5,if_neg h6,if_neg];rintro⟨hp,-⟩;obtain⟨r,hr⟩:=List.isPrefixOf_iff_prefix.1 hp;have:(s.extract 0 6).toList=pI:=by rw[Lib.toList_data,L6.out,←hr];rfl
     rw[this] at hcw;cases hcw)
    clear h6s hans h0 h1 h2 h3 h4 h5 h6 hf;have gy:=af ((kX.out.fH 1 rfl (.int .i64 os) (.slice A1 n1 c1) (.slice A2 n2 c2) (.slice A3 n3 c3) (.int .i64 st)).pick [2,1] (by decide) rfl rfl);go_wp2;have z0:=gy.out.cells 1 rfl;refine bodyPost_ret (v:=.tuple #[.agg #[.int .i64 os,.slice A1 n1 c1,.slice A2 n2 c2,.slice A3 n3 c3,.int .i64 st],.string ⟨#[119,104,97,116]⟩]) (by simp[results,Tryz.results10,go_sem,z0]) rfl ⟨.agg #[.int .i64 os,.slice A1 n1 c1,.slice A2 n2 c2,.slice A3 n3 c3,.int .i64 st],by rw[HA.out]<;>rfl,gy.out.pick [0] (by decide) rfl rfl⟩
  ·have c6:¬(6:Int)<(s.size:Int):=by omega
   have HA:Bx (ans=⟨Gn.toArray⟩):=Bx.mk (by
    rw[←hans];unfold tC;rw[if_neg h0,if_neg h1,if_neg h2,if_neg h3,if_neg h4,if_neg h5,if_neg h6,if_neg];rintro⟨-,hp⟩;rw[←Lib.size_eq] at hp
    exact h6s hp)
   clear h6s hans h0 h1 h2 h3 h4 h5 h6 hf;have gy:=af ((kX.out.fH 1 rfl (.int .i64 os) (.slice A1 n1 c1) (.slice A2 n2 c2) (.slice A3 n3 c3) (.int .i64 st)).pick [2,1] (by decide) rfl rfl);go_wp2;have z0:=gy.out.cells 1 rfl;refine bodyPost_ret (v:=.tuple #[.agg #[.int .i64 os,.slice A1 n1 c1,.slice A2 n2 c2,.slice A3 n3 c3,.int .i64 st],.string ⟨#[119,104,97,116]⟩]) (by simp[results,Tryz.results10,go_sem,z0]) rfl ⟨.agg #[.int .i64 os,.slice A1 n1 c1,.slice A2 n2 c2,.slice A3 n3 c3,.int .i64 st],by rw[HA.out]<;>rfl,gy.out.pick [0] (by decide) rfl rfl⟩
 |some a=>
  obtain⟨k,m⟩:=a;have hk0:k0=k:=HK0.out;have hm0:m0=m:=Bz.out;have OW:bo=true:=HBO.out;subst hk0 hm0 OW;have hpb:=ZR.out;have hans:=Tv.out;rw[Jv bC.out HR.out] at hpb hans
  simp only at hpb hans
  have XK:Bx ((Lit.int .i64 m0).wf=true):=Bx.mk (dU (by have:=zN HR.out;omega));obtain⟨did,yU⟩:∃x,fU b ⟨k0,m0⟩=x:=⟨_,rfl⟩;have BK:=Bx.mk yU;have HA:Bx (ans=yI did ⟨#[111,107]⟩):=Bx.mk (by rw[←hans,yU];cases did<;>rfl);have HX:=Bx.mk hpb;obtain⟨ve,VB⟩:∃y,pb.order.start=y:=⟨_,rfl⟩;obtain⟨xt,hxt⟩:∃y,pb.state=y:=⟨_,rfl⟩;have YR:=Bx.mk VB;have YS:=Bx.mk hxt;clear hpb hans yU VB hxt;have q8:=kX.out.cells 5 rfl
  go_wp2_with fail
  refine(Au _ b k0 m0 _ (HB.out.up kX.out.below) XK.out).mono ?_;rw[HX.out,BK.out];rintro e w8 ⟨v8,rfl,s8⟩;obtain⟨X1,i1,j1,X2,i2,j2,X3,i3,j3,hv⟩:=s8.gW 0 rfl;rw[YR.out,YS.out] at hv;subst hv;obtain⟨g9,XH⟩:∃y,w8.heap.size=y:=⟨_,rfl⟩;have gy:Hid (St w (w8.alloc (.cells #[.int .i64 ve,.slice X1 i1 j1,.slice X2 i2 j2,.slice X3 i3 j3,.int .i64 xt] 28)) [ah (w.heap.size+1) 28 #[.int .i64 0,.slice none 0 0,.slice none 0 0,.slice none 0 0,.int .i64 0],bF (.agg #[.int .i64 ve,.slice X1 i1 j1,.slice X2 i2 j2,.slice X3 i3 j3,.int .i64 xt]) pb,ah g9 28 #[.int .i64 ve,.slice X1 i1 j1,.slice X2 i2 j2,.slice X3 i3 j3,.int .i64 xt]]):=af (by rw[←XH];exact((kX.out.call s8).alloc _ _).pick [1,9,10] (by decide) rfl rfl);clear s8 kX q0 q1 q6 q8 f1
  go_upto_region 11 with(fail)
  refine kS (σ:=Unit)
   (fun _ i=>match i with
    |0=>.agg #[.int .i64 ve,.slice X1 i1 j1,.slice X2 i2 j2,.slice X3 i3 j3,.int .i64 xt]
    |1=>.bool did
    |2=>.string (yI did ⟨#[111,107]⟩)
    |4=>.string (yI did ⟨#[111,107]⟩)
    |_=>undef)
   (fun D _ wx=>Sn w wx fun i=>match i with
    |0=>some (ah (w.heap.size+1) 28 (if D 3=true then #[.int .i64 ve,.slice X1 i1 j1,.slice X2 i2 j2,.slice X3 i3 j3,.int .i64 xt] else #[.int .i64 0,.slice none 0 0,.slice none 0 0,.slice none 0 0,.int .i64 0]))
    |1=>some (bF (.agg #[.int .i64 ve,.slice X1 i1 j1,.slice X2 i2 j2,.slice X3 i3 j3,.int .i64 xt]) pb)
    |2=>some (ah g9 28 #[.int .i64 ve,.slice X1 i1 j1,.slice X2 i2 j2,.slice X3 i3 j3,.int .i64 xt])
    |_=>none)
   () ?_ ?_ ?_
  ·intro D hD;refine((Sn.eY gy.out).quiet ((ai _ _).drew)).congr fun i=>?_
   match i with
   |0=>simp only[hD 3 (by decide)];rfl
   |1 | 2=>rfl
   |q+3=>rfl
  ·refine Cs (fun D _ wx hR _ hd _ _ hs K hK=>?_) ?_
   ·have e14:=hs.o 14 (.pointer (some ⟨g9,0,none⟩));clear hs;have qk:=(hR.blk 2 rfl).cell;go_simp;exact hK () wx sv hR
   refine Cs (fun D _ wx hR _ hd _ _ hs K hK=>?_) ?_
   ·have e15:=hs.o 15 (.bool did);clear hs;go_simp;exact hK () wx sv hR
   refine Cs (fun D _ wx hR _ hd _ _ hs K hK=>?_) ?_
   ·have e63:=hs.v 1 63 hd;have g63:=aZ e63;clear hs;go_simp;refine(AO did ⟨#[111,107]⟩ _).mono ?_;rintro e2 w2 ⟨rfl,rfl⟩;exact hK () wx sv hR
   refine Cs (fun D _ wx hR (hDi:D 3=false) hd _ _ hs K hK=>?_) ?_
   ·have e4:=hs.o 4 (.pointer (some ⟨(w.heap.size+1),0,none⟩));have e62:=hs.v 0 62 hd;clear hs;have kb:iJ wx (w.heap.size+1) 28 #[.int .i64 0,.slice none 0 0,.slice none 0 0,.slice none 0 0,.int .i64 0]:=hR.blk 0 (by simp only[hDi]<;>rfl);have f0:=kb.frozen;have qk:=kb.cell;go_simp
    exact hK () _ sv ((hR.fH 0 (by simp only[hDi];rfl) _ _ _ _ _).congr
     (fun i=>by
      match i with
      |0 | 1 | 2=>rfl
      |q+3=>exact(if_neg (show¬(q+3=0) by omega)).symm))
   refine Cs (fun D _ wx hR _ hd _ _ hs K hK=>?_) ?_
   ·have e64:=hs.v 2 64 hd;clear hs;go_simp;exact hK () wx sv hR
   exact au.nil
  ·intro D _ wx hR hD;simp only[eG,Act.put,aO,aS,aV];have VD:Hid (St w wx [bF (.agg #[.int .i64 ve,.slice X1 i1 j1,.slice X2 i2 j2,.slice X3 i3 j3,.int .i64 xt]) pb,ah (w.heap.size+1) 28 #[.int .i64 ve,.slice X1 i1 j1,.slice X2 i2 j2,.slice X3 i3 j3,.int .i64 xt]]):=af (hR.fO [1,0] (by decide) (by simp only[List.map,hD 3 (by decide)]<;>rfl));clear hR hD;have z0:=VD.out.cells 1 rfl;go_wp2;refine bodyPost_ret (v:=.tuple #[.agg #[.int .i64 ve,.slice X1 i1 j1,.slice X2 i2 j2,.slice X3 i3 j3,.int .i64 xt],.string (yI did ⟨#[111,107]⟩)]) (by simp[results,Tryz.results10,go_sem,z0]) rfl ⟨.agg #[.int .i64 ve,.slice X1 i1 j1,.slice X2 i2 j2,.slice X3 i3 j3,.int .i64 xt],by rw[HA.out]<;>rfl,VD.out.pick [0] (by decide) rfl rfl⟩
theorem Es (v:Value) (b:aI) (s:ByteArray) (w:World) (h:RdB w w.heap.size v b) (hs:s.size≤1099511627776):
  Calls Tryz.prog 10 #[v,.string s] w (wE b s.data.toList w):=by
 cases hok:aP b with
 |false=>exact Sl v b s w h hok
 |true=>exact LX v b s w h hok hs
end Go.Proofs.YtkmcengmglgdeaaGreatDoor
