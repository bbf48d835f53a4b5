/- Joined texts: TaskTS, Shelf, SplitW, LaidP, MayT, ClosP. -/
import Derived.Test.YtkmcengmglgdeaaGreatDoorSCondS
import Derived.Shelf.LaysM
import Derived.Shelf.Strconv.Itoa3
import Derived.Shelf.Strings.Search1
import Derived.Shelf.Strings.Search2
import Derived.Shelf.Strings.Count
import Derived.Shelf.Strings.Split
import Derived.Test.YtkmcengmglgdeaaGreatDoorProg
import Derived.Test.YtkmcengmglgdeaaGreatDoorSDrawB
import Derived.Lib.IndexBytes
import Derived.Lib.SplitLaws
import Derived.Lib.AppendIntMem
import Derived.Test.YtkmcengmglgdeaaGreatDoorSJourP
import Derived.Lib.LaidTab

namespace Go.Proofs.YtkmcengmglgdeaaGreatDoor
set_option linter.unusedVariables false
set_option linter.unusedSimpArgs false
set_option maxRecDepth 100000
set_option maxHeartbeats 8000000
open Go.ChangeShapes Go.WideShapes Go.ChangeAt Go.RowKit
theorem FO (v:Value) (t:aB) (w:World) (h:oW w w.heap.size v t) (hok:aK t=true):
  Calls Tryz.prog 60 #[v] w fun e w'=>e= .returned (.string ⟨(rF t).toArray⟩)∧Below w.heap.size w w':=by
 have h':=h;obtain⟨G,gn,gc,G',n',c',rfl,hg,hgs,hds,hst⟩:=h;have HV:=af h';have HGL:=af hg;have HGN:=af hgs;have Bf:=af hds;have bG:=af hok;obtain⟨qx,-,pz,iL⟩:=aJ t hok;obtain⟨st,hst'⟩:∃x,t.start=x:=⟨_,rfl⟩;obtain⟨s0,rfl⟩:=bC (show 0≤st by omega);have mG:s0<32:=by omega
 have gQ:=af iL;have yF:n'≤6:=by rw[←hds.len];exact pz
 have gy:=af hds.len;have HST:Hid (t.start.toNat=s0):=af (by rw[hst'];simp);rw[hst'] at HV ⊢
 have rC:=af (BH t);have HHL:=af (Ij t);obtain⟨SA,hSA⟩:∃x:ByteArray,(⟨(gK s0).toArray⟩:ByteArray)=x:=⟨_,rfl⟩;obtain⟨SC,hSC⟩:∃x:ByteArray,(⟨(jQ t.goal).toArray⟩:ByteArray)=x:=⟨_,rfl⟩;have z1:SA.size≤5:=by rw[←hSA,jl];exact iM s0
 have z2:SC.size≤200:=by rw[←hSC,jl];exact nY _
 have HN1:=af (show¬9223372036854775807<SA.size+1 by omega);have NI:=af (show¬9223372036854775807<SA.size+1+SC.size by omega);have HSA:=Bx.mk hSA;have HSC:=Bx.mk hSC
 have HQ0:Hid (SA++⟨#[62]⟩++SC=⟨(o6 t++(t.ay.take 0).flatMap lD).toArray⟩):=af (by
  rw[List.take_zero,List.flatMap_nil,List.append_nil]
  unfold o6
  rw[HST.out,←hSA,←hSC]
  exact Nv _ _ _)
 have aS:=af ((St.refl w).alloc #[.int .i64 (s0:Int),.slice G gn gc,.slice G' n' c'] 26);clear h' hg hgs hds hst hok qx pz iL hst' hSA hSC z1 z2;go_enter Tryz.func60,Tryz.ntmps60
 go_wp2_with fail
 refine(bV _ t _ (HV.out.up aS.out.below)).mono ?_;rw[bG.out];rintro e w1 ⟨rfl,hb1⟩;have bf:=af (aS.out.quiet hb1);have C0:=af (bf.out.cells 0 rfl 0);have C1:=af (bf.out.cells 0 rfl 1);have HG0:Hid (w.heap.size<w1.heap.size):=af (bf.out.new 0 rfl).2;clear hb1 aS
 go_upto_region 3 with(fail)
 refine kG (σ:=Unit)
  (fun _ i=>match i with
  |0=>.pointer (some ⟨w.heap.size,0,none⟩)
  |1=>.int .i64 (s0:Int)
  |2=>.string SA
  |3=>.string (SA++⟨#[62]⟩)
  |4=>.pointer (some ⟨w.heap.size,1,none⟩)
  |5=>.slice G gn gc
  |6=>.string SC
  |7=>.string (SA++⟨#[62]⟩++SC)
  |8=>.string (SA++⟨#[62]⟩++SC)
  |_=>undef)
  (fun D _ wx=>Below w1.heap.size w1 wx) () (fun D hD=>(ai _ _).drew) ?_ ?_
 ·refine Cs (fun D _ wx hR _ hd _ _ hs K hK=>?_) ?_
  ·have e1:=hs.o 1 (.pointer (some ⟨w.heap.size,0,none⟩));clear hs;go_simp;exact hK () wx sv hR
  refine Cs (fun D _ wx hR _ hd _ _ hs K hK=>?_) ?_
  ·have e9:=hs.v 0 9 hd;clear hs;have c0:wx.cell? ⟨w.heap.size,0,none⟩=some (.int .i64 (s0:Int)):=(aF hR _ _ HG0.out).trans C0.out;go_simp;exact hK () wx sv hR
  refine Cs (fun D _ wx hR _ hd _ _ hs K hK=>?_) ?_
  ·have e10:=hs.v 1 10 hd;have g10:=aX e10;clear hs;go_simp;refine(jF s0 mG wx).mono ?_;rw[HSA.out];rintro e2 w2 ⟨rfl,hb2⟩;exact hK () w2 sv (hR.trans (hb2.mono hR.size))
  refine Cs (fun D _ wx hR _ hd _ _ hs K hK=>?_) ?_
  ·have e11:=hs.v 2 11 hd;clear hs;have q1:=HN1.out;go_simp;exact hK () wx sv hR
  refine Cs (fun D _ wx hR _ hd _ _ hs K hK=>?_) ?_
  ·have e1:=hs.o 1 (.pointer (some ⟨w.heap.size,0,none⟩));clear hs;go_simp;exact hK () wx sv hR
  refine Cs (fun D _ wx hR _ hd _ _ hs K hK=>?_) ?_
  ·have e13:=hs.v 4 13 hd;clear hs;have c0:wx.cell? ⟨w.heap.size,1,none⟩=some (.slice G gn gc):=(aF hR _ _ HG0.out).trans C1.out;go_simp;exact hK () wx sv hR
  refine Cs (fun D _ wx hR _ hd _ _ hs K hK=>?_) ?_
  ·have e14:=hs.v 5 14 hd;have g14:=aX e14;clear hs;go_simp;refine(xq G gn gc t.goal wx (HGL.out.up ((bf.out.below).trans (hR.mono bf.out.below.size))) (by have:=HGN.out;omega)).mono ?_;rw[HSC.out];rintro e2 w2 ⟨rfl,hb2⟩;exact hK () w2 sv (hR.trans (hb2.mono hR.size))
  refine Cs (fun D _ wx hR _ hd _ _ hs K hK=>?_) ?_
  ·have e12:=hs.v 3 12 hd;have e15:=hs.v 6 15 hd;clear hs;have q1:=NI.out;go_simp;exact hK () wx sv hR
  refine Cs (fun D _ wx hR _ hd _ _ hs K hK=>?_) ?_
  ·have e16:=hs.v 7 16 hd;clear hs;go_simp;exact hK () wx sv hR
  exact aj.nil
 intro D _ wx hR hD;simp only[eH,Act.put,aO,aU,aW];have HS2:=af (bf.out.quiet hR);clear hR hD bf C0 C1 HG0;go_wp2
 go_loopw [4,3] (fun i v wr=>∃(k:Nat) (q:ByteArray),k≤n'∧i= .int .i64 k∧v= .string q∧Hid (q=⟨(o6 t++(t.ay.take k).flatMap lD).toArray⟩)∧St w wr [ah w.heap.size 26 #[.int .i64 (s0:Int),.slice G gn gc,.slice G' n' c']]) (fun i _ _=>n'-(intOf i).toNat)
 case atStart=>exact⟨0,_,by omega,rfl,rfl,HQ0,HS2.out⟩
 case round=>
  clear HS2 HQ0;obtain⟨k,q,hk,rfl,rfl,HQ,S⟩:=hrel;have HS:=af S;clear S;have c2:wr.cell? ⟨w.heap.size,2,none⟩=some (.slice G' n' c'):=HS.out.cells 0 rfl 2
  by_cases hlt:k<n'
  ·obtain⟨db,off,d,rfl,hdb,hd,hda⟩:=Bf.out.get hlt;obtain⟨An,nn,cn,p0,p1,p2,p3,dU,hnn,-⟩:=hda;have r0:wr.cell? ⟨db,off+k*4,none⟩=some (.slice An nn cn):=(aF HS.out.below db _ hdb).trans p0;have r1:wr.cell? ⟨db,off+k*4+1,none⟩=some (.int .i64 d.on):=(aF HS.out.below db _ hdb).trans p1;have r2:wr.cell? ⟨db,off+k*4+2,none⟩=some (.int .i64 d.off):=(aF HS.out.below db _ hdb).trans p2;have r3:wr.cell? ⟨db,off+k*4+3,none⟩=some (.int .i64 d.flip):=(aF HS.out.below db _ hdb).trans p3;obtain⟨⟨o1,o2⟩,⟨f1,f2⟩,x1,x2⟩:=Ik (gQ.out d (bT hd));have ac7:=af (EX hd);obtain⟨don,hon⟩:∃x,d.on=x:=⟨_,rfl⟩;obtain⟨Zz,hof⟩:∃x,d.off=x:=⟨_,rfl⟩;obtain⟨dfl,hfl⟩:∃x,d.flip=x:=⟨_,rfl⟩;have Yb:Hid (lD d=59::(jQ d.need++58::(gK don.toNat++44::(gK Zz.toNat++44::gK dfl.toNat)))):=af (by unfold lD;rw[hon,hof,hfl]);rw[hon] at r1 o1 o2;rw[hof] at r2 f1 f2;rw[hfl] at r3 x1 x2;obtain⟨on,rfl⟩:=bC o1;obtain⟨of,rfl⟩:=bC f1;obtain⟨fl,rfl⟩:=bC x1;have aaZ:on<32:=by omega
   have aa0:of<32:=by omega
   have aa1:fl<32:=by omega
   simp only[bW] at Yb;obtain⟨SN,hSN⟩:∃x:ByteArray,(⟨(jQ d.need).toArray⟩:ByteArray)=x:=⟨_,rfl⟩;obtain⟨S1,hS1⟩:∃x:ByteArray,(⟨(gK on).toArray⟩:ByteArray)=x:=⟨_,rfl⟩;obtain⟨S2,hS2⟩:∃x:ByteArray,(⟨(gK of).toArray⟩:ByteArray)=x:=⟨_,rfl⟩;obtain⟨S3,hS3⟩:∃x:ByteArray,(⟨(gK fl).toArray⟩:ByteArray)=x:=⟨_,rfl⟩
   have y0:q.size≤3000:=by
    rw[HQ.out,jl,bQ]
    have:=EW (t.ay.take k)
    have:=HHL.out
    have:(t.ay.take k).length≤k:=List.length_take_le _ _
    omega
   have y1:SN.size≤200:=by rw[←hSN,jl];exact nY _
   have y2:S1.size≤5:=by rw[←hS1,jl];exact iM _
   have y3:S2.size≤5:=by rw[←hS2,jl];exact iM _
   have y4:S3.size≤5:=by rw[←hS3,jl];exact iM _
   have ZB:Hid (q++⟨#[59]⟩++SN++⟨#[58]⟩++S1++⟨#[44]⟩++S2++⟨#[44]⟩++S3=⟨(o6 t++(t.ay.take (k+1)).flatMap lD).toArray⟩):=af (by
    rw[ac7.out,Yb.out,HQ.out,←hSN,←hS1,←hS2,←hS3];rw[Nv,Nv,Nv,Nv]
    simp)
   have N1:=af (show¬9223372036854775807<q.size+1 by omega);have N2:=af (show¬9223372036854775807<q.size+1+SN.size by omega);have N3:=af (show¬9223372036854775807<q.size+1+SN.size+1 by omega);have N4:=af (show¬9223372036854775807<q.size+1+SN.size+1+S1.size by omega);have N5:=af (show¬9223372036854775807<q.size+1+SN.size+1+S1.size+1 by omega);have N6:=af (show¬9223372036854775807<q.size+1+SN.size+1+S1.size+1+S2.size by omega);have N7:=af (show¬9223372036854775807<q.size+1+SN.size+1+S1.size+1+S2.size+1 by omega);have N8:=af (show¬9223372036854775807<q.size+1+SN.size+1+S1.size+1+S2.size+1+S3.size by omega);have zB:=Bx.mk hSN;have aez:=Bx.mk hS1;have aeA:=Bx.mk hS2;have aeB:=Bx.mk hS3;have HN:=af (dU.up (HS.out.below.trans ((ai _ _).alloc HS.out.below.size (.cells #[.slice An nn cn,.int .i64 (on:Int),.int .i64 (of:Int),.int .i64 (fl:Int)] 144))));have NK:=af hnn;have P8:=af (HS.out.alloc #[.slice An nn cn,.int .i64 (on:Int),.int .i64 (of:Int),.int .i64 (fl:Int)] 144);clear p0 p1 p2 p3 dU hnn hd HS o1 o2 f1 f2 x1 x2 hon hof hfl hSN hS1 hS2 hS3 y0 y1 y2 y3 y4 HQ ac7 Yb
   go_upto_region 8 with(fail)
   obtain⟨dg,hdg⟩:∃x,wr.heap.size=x:=⟨_,rfl⟩;obtain⟨wb,hwb⟩:∃x,wr.alloc (.cells #[.slice An nn cn,.int .i64 (on:Int),.int .i64 (of:Int),.int .i64 (fl:Int)] 144)=x:=⟨_,rfl⟩;rw[hwb] at P8 HN ⊢
   rw[hdg] at P8 ⊢
   have D0:=af (P8.out.cells 1 rfl 0);have D1:=af (P8.out.cells 1 rfl 1);have D2:=af (P8.out.cells 1 rfl 2);have D3:=af (P8.out.cells 1 rfl 3);have HDG:Hid (dg<wb.heap.size):=af (P8.out.new 1 rfl).2;clear hwb hdg c2 r0 r1 r2 r3
   refine kG (σ:=Unit)
    (fun _ i=>match i with
    |0=>.string q
    |1=>.string (q++⟨#[59]⟩)
    |2=>.pointer (some ⟨dg,0,none⟩)
    |3=>.slice An nn cn
    |4=>.string SN
    |5=>.string (q++⟨#[59]⟩++SN)
    |6=>.string (q++⟨#[59]⟩++SN++⟨#[58]⟩)
    |7=>.pointer (some ⟨dg,1,none⟩)
    |8=>.int .i64 (on:Int)
    |9=>.string S1
    |10=>.string (q++⟨#[59]⟩++SN++⟨#[58]⟩++S1)
    |11=>.string (q++⟨#[59]⟩++SN++⟨#[58]⟩++S1++⟨#[44]⟩)
    |12=>.pointer (some ⟨dg,2,none⟩)
    |13=>.int .i64 (of:Int)
    |14=>.string S2
    |15=>.string (q++⟨#[59]⟩++SN++⟨#[58]⟩++S1++⟨#[44]⟩++S2)
    |16=>.string (q++⟨#[59]⟩++SN++⟨#[58]⟩++S1++⟨#[44]⟩++S2++⟨#[44]⟩)
    |17=>.pointer (some ⟨dg,3,none⟩)
    |18=>.int .i64 (fl:Int)
    |19=>.string S3
    |20=>.string (q++⟨#[59]⟩++SN++⟨#[58]⟩++S1++⟨#[44]⟩++S2++⟨#[44]⟩++S3)
    |21=>.string (q++⟨#[59]⟩++SN++⟨#[58]⟩++S1++⟨#[44]⟩++S2++⟨#[44]⟩++S3)
    |_=>undef)
    (fun D _ wx=>Below wb.heap.size wb wx) () (fun D hD=>(ai _ _).drew) ?_ ?_
   ·refine Cs (fun D _ wx hR hDi hd hsh _ hs K hK=>?_) ?_
    ·have m21:D 21=false:=hsh.no hDi 21 rfl ⟨0,.phase⟩ (by simp) rfl rfl;have e3:=hs.before 21 3 (u:=.string q) rfl m21 (by kernel_rfl) rfl;clear hs;go_simp;exact hK () wx sv hR
    refine Cs (fun D _ wx hR _ hd _ _ hs K hK=>?_) ?_
    ·have e29:=hs.v 0 29 hd;clear hs;have q1:=N1.out;go_simp;exact hK () wx sv hR
    refine Cs (fun D _ wx hR _ hd _ _ hs K hK=>?_) ?_
    ·have e5:=hs.o 5 (.pointer (some ⟨dg,0,none⟩));clear hs;go_simp;exact hK () wx sv hR
    refine Cs (fun D _ wx hR _ hd _ _ hs K hK=>?_) ?_
    ·have e31:=hs.v 2 31 hd;clear hs;have c0:wx.cell? ⟨dg,0,none⟩=some (.slice An nn cn):=(aF hR _ _ HDG.out).trans D0.out;go_simp;exact hK () wx sv hR
    refine Cs (fun D _ wx hR _ hd _ _ hs K hK=>?_) ?_
    ·have e32:=hs.v 3 32 hd;have g32:=aX e32;clear hs;go_simp;refine(xq An nn cn d.need wx (HN.out.up hR) (by have:=NK.out;omega)).mono ?_;rw[zB.out];rintro e2 w2 ⟨rfl,hb2⟩;exact hK () w2 sv (hR.trans (hb2.mono hR.size))
    refine Cs (fun D _ wx hR _ hd _ _ hs K hK=>?_) ?_
    ·have e30:=hs.v 1 30 hd;have e33:=hs.v 4 33 hd;clear hs;have q1:=N2.out;go_simp;exact hK () wx sv hR
    refine Cs (fun D _ wx hR _ hd _ _ hs K hK=>?_) ?_
    ·have e34:=hs.v 5 34 hd;clear hs;have q1:=N3.out;go_simp;exact hK () wx sv hR
    refine Cs (fun D _ wx hR _ hd _ _ hs K hK=>?_) ?_
    ·have e5:=hs.o 5 (.pointer (some ⟨dg,0,none⟩));clear hs;go_simp;exact hK () wx sv hR
    refine Cs (fun D _ wx hR _ hd _ _ hs K hK=>?_) ?_
    ·have e36:=hs.v 7 36 hd;clear hs;have c0:wx.cell? ⟨dg,1,none⟩=some (.int .i64 (on:Int)):=(aF hR _ _ HDG.out).trans D1.out;go_simp;exact hK () wx sv hR
    refine Cs (fun D _ wx hR _ hd _ _ hs K hK=>?_) ?_
    ·have e37:=hs.v 8 37 hd;have g37:=aX e37;clear hs;go_simp;refine(jF on aaZ wx).mono ?_;rw[aez.out];rintro e2 w2 ⟨rfl,hb2⟩;exact hK () w2 sv (hR.trans (hb2.mono hR.size))
    refine Cs (fun D _ wx hR _ hd _ _ hs K hK=>?_) ?_
    ·have e35:=hs.v 6 35 hd;have e38:=hs.v 9 38 hd;clear hs;have q1:=N4.out;go_simp;exact hK () wx sv hR
    refine Cs (fun D _ wx hR _ hd _ _ hs K hK=>?_) ?_
    ·have e39:=hs.v 10 39 hd;clear hs;have q1:=N5.out;go_simp;exact hK () wx sv hR
    refine Cs (fun D _ wx hR _ hd _ _ hs K hK=>?_) ?_
    ·have e5:=hs.o 5 (.pointer (some ⟨dg,0,none⟩));clear hs;go_simp;exact hK () wx sv hR
    refine Cs (fun D _ wx hR _ hd _ _ hs K hK=>?_) ?_
    ·have e41:=hs.v 12 41 hd;clear hs;have c0:wx.cell? ⟨dg,2,none⟩=some (.int .i64 (of:Int)):=(aF hR _ _ HDG.out).trans D2.out;go_simp;exact hK () wx sv hR
    refine Cs (fun D _ wx hR _ hd _ _ hs K hK=>?_) ?_
    ·have e42:=hs.v 13 42 hd;have g42:=aX e42;clear hs;go_simp;refine(jF of aa0 wx).mono ?_;rw[aeA.out];rintro e2 w2 ⟨rfl,hb2⟩;exact hK () w2 sv (hR.trans (hb2.mono hR.size))
    refine Cs (fun D _ wx hR _ hd _ _ hs K hK=>?_) ?_
    ·have e40:=hs.v 11 40 hd;have e43:=hs.v 14 43 hd;clear hs;have q1:=N6.out;go_simp;exact hK () wx sv hR
    refine Cs (fun D _ wx hR _ hd _ _ hs K hK=>?_) ?_
    ·have e44:=hs.v 15 44 hd;clear hs;have q1:=N7.out;go_simp;exact hK () wx sv hR
    refine Cs (fun D _ wx hR _ hd _ _ hs K hK=>?_) ?_
    ·have e5:=hs.o 5 (.pointer (some ⟨dg,0,none⟩));clear hs;go_simp;exact hK () wx sv hR
    refine Cs (fun D _ wx hR _ hd _ _ hs K hK=>?_) ?_
    ·have e46:=hs.v 17 46 hd;clear hs;have c0:wx.cell? ⟨dg,3,none⟩=some (.int .i64 (fl:Int)):=(aF hR _ _ HDG.out).trans D3.out;go_simp;exact hK () wx sv hR
    refine Cs (fun D _ wx hR _ hd _ _ hs K hK=>?_) ?_
    ·have e47:=hs.v 18 47 hd;have g47:=aX e47;clear hs;go_simp;refine(jF fl aa1 wx).mono ?_;rw[aeB.out];rintro e2 w2 ⟨rfl,hb2⟩;exact hK () w2 sv (hR.trans (hb2.mono hR.size))
    refine Cs (fun D _ wx hR _ hd _ _ hs K hK=>?_) ?_
    ·have e45:=hs.v 16 45 hd;have e48:=hs.v 19 48 hd;clear hs;have q1:=N8.out;go_simp;exact hK () wx sv hR
    refine Cs (fun D _ wx hR _ hd _ _ hs K hK=>?_) ?_
    ·have e49:=hs.v 20 49 hd;clear hs;go_simp;exact hK () wx sv hR
    exact aj.nil
   intro D _ wx hR hD;simp only[eH,Act.put,aO,aU,aW];have X7:=af (P8.out.quiet hR);clear hR hD P8 D0 D1 D2 D3 HDG;go_wp2
   go_roundw
   case rel=>exact⟨k+1,_,by omega,by go_num,rfl,ZB,X7.out.pick [0] (by decide) rfl rfl⟩
   case measure=>simp[intOf];omega
  ·have hke:k=n':=by omega
   have HE:Hid (q=⟨(rF t).toArray⟩):=af (by rw[HQ.out,rC.out,hke,←gy.out,List.take_length]);clear hke HQ;go_wp2;go_ret;exact⟨dK HE.out,HS.out.below⟩
end Go.Proofs.YtkmcengmglgdeaaGreatDoor


namespace Go.Proofs
open Go.Shelf
def Tryz.laysM171_ren:Go.Shelf.Ren:=⟨fun | 171=>95 | 243=>151 | 246=>183 | 283=>205 | 284=>206 | 285=>207 | 286=>208 | 129=>220 | 317=>219 | 318=>221 | 319=>222 | 320=>223 | 337=>230 | 338=>231 | n=>n,fun | 3=>3 | 9=>9 | 2=>2 | 4=>4 | 171=>195 | 0=>0 | 53=>196 | 37=>22 | 5=>5 | 173=>199 | 212=>226 | 51=>222 | 20=>20 | 213=>227 | 46=>194 | 232=>247 | 233=>248 | n=>n,fun | 17=>2 | 18=>3 | 19=>4 | n=>n⟩
theorem Tryz.laysM171:Go.Proofs.LaysM.n171 Tryz.prog Tryz.laysM171_ren:={
 mixed:=by kernel_rfl
 f129:=Tryz.func220.trans (congrArg some (by kernel_rfl))
 f171:=Tryz.func95.trans (congrArg some (by kernel_rfl))
 f243:=Tryz.func151.trans (congrArg some (by kernel_rfl))
 f246:=Tryz.func183.trans (congrArg some (by kernel_rfl))
 f283:=Tryz.func205.trans (congrArg some (by kernel_rfl))
 f284:=Tryz.func206.trans (congrArg some (by kernel_rfl))
 f285:=Tryz.func207.trans (congrArg some (by kernel_rfl))
 f286:=Tryz.func208.trans (congrArg some (by kernel_rfl))
 f317:=Tryz.func219.trans (congrArg some (by kernel_rfl))
 f318:=Tryz.func221.trans (congrArg some (by kernel_rfl))
 f319:=Tryz.func222.trans (congrArg some (by kernel_rfl))
 f320:=Tryz.func223.trans (congrArg some (by kernel_rfl))
 f337:=Tryz.func230.trans (congrArg some (by kernel_rfl))
 f338:=Tryz.func231.trans (congrArg some (by kernel_rfl))
 t0:=Tryz.underlying0
 a0:=Tryz.isAgg0
 z0:=Tryz.sizeOf0
 v0:=Tryz.zeroValue0
 t2:=Tryz.underlying2
 a2:=Tryz.isAgg2
 z2:=Tryz.sizeOf2
 v2:=Tryz.zeroValue2
 t3:=Tryz.underlying3
 a3:=Tryz.isAgg3
 z3:=Tryz.sizeOf3
 v3:=Tryz.zeroValue3
 t4:=Tryz.underlying4
 a4:=Tryz.isAgg4
 z4:=Tryz.sizeOf4
 v4:=Tryz.zeroValue4
 t5:=Tryz.underlying5
 a5:=Tryz.isAgg5
 z5:=Tryz.sizeOf5
 v5:=Tryz.zeroValue5
 t9:=Tryz.underlying9
 a9:=Tryz.isAgg9
 z9:=Tryz.sizeOf9
 v9:=Tryz.zeroValue9
 t20:=Tryz.underlying20
 a20:=Tryz.isAgg20
 z20:=Tryz.sizeOf20
 v20:=Tryz.zeroValue20
 t37:=Tryz.underlying22
 a37:=Tryz.isAgg22
 z37:=Tryz.sizeOf22
 v37:=Tryz.zeroValue22
 t46:=Tryz.underlying194
 a46:=Tryz.isAgg194
 z46:=Tryz.sizeOf194
 v46:=Tryz.zeroValue194
 t51:=Tryz.underlying222
 a51:=Tryz.isAgg222
 z51:=Tryz.sizeOf222
 v51:=Tryz.zeroValue222
 t53:=Tryz.underlying196
 a53:=Tryz.isAgg196
 z53:=Tryz.sizeOf196
 v53:=Tryz.zeroValue196
 t171:=Tryz.underlying195
 a171:=Tryz.isAgg195
 z171:=Tryz.sizeOf195
 v171:=Tryz.zeroValue195
 t173:=Tryz.underlying199
 a173:=Tryz.isAgg199
 z173:=Tryz.sizeOf199
 v173:=Tryz.zeroValue199
 t212:=Tryz.underlying226
 a212:=Tryz.isAgg226
 z212:=Tryz.sizeOf226
 v212:=Tryz.zeroValue226
 t213:=Tryz.underlying227
 a213:=Tryz.isAgg227
 z213:=Tryz.sizeOf227
 t232:=Tryz.underlying247
 a232:=Tryz.isAgg247
 z232:=Tryz.sizeOf247
 v232:=Tryz.zeroValue247
 t233:=Tryz.underlying248
 a233:=Tryz.isAgg248
 z233:=Tryz.sizeOf248
 v233:=Tryz.zeroValue248
 g17:=by kernel_rfl
 g18:=by kernel_rfl
 g19:=by kernel_rfl
 i0:=by kernel_rfl
 i2:=by kernel_rfl
 i3:=by kernel_rfl
 i4:=by kernel_rfl
 i5:=by kernel_rfl
 i9:=by kernel_rfl
 i20:=by kernel_rfl
 i37:=by kernel_rfl
 i46:=by kernel_rfl
 i51:=by kernel_rfl
 i53:=by kernel_rfl
 i171:=by kernel_rfl
 i173:=by kernel_rfl
 i212:=by kernel_rfl
 i232:=by kernel_rfl
 i233:=by kernel_rfl
 m17:=by kernel_rfl
 m18:=by kernel_rfl
 m19:=by kernel_rfl }
open Go.RowKit Go.Sort Go.Lib in
theorem Tryz.strconv_Itoa (n:Int) (h0: -9223372036854775808≤n) (h1:n≤9223372036854775807) (w:World) (htab:Lib.TabIs Tryz.prog w "internal/strconv.uint64pow10" .u64 Lib.pow10Tab):
 Calls Tryz.prog 95 #[.int .i64 n] w fun e w'=>e= .returned (.string ⟨(Lib.itoa n).toArray⟩)∧∃k os,w'=grow (w.drewN k) os:=Any.strconv_Itoa Tryz.laysM171 n h0 h1 w htab
def Tryz.lays143_ren:Go.Shelf.Ren:=⟨fun | 143=>226 | 219=>182 | 217=>201 | 225=>202 | 224=>203 | 267=>204 | 266=>217 | 314=>218 | n=>n,fun | 9=>9 | 3=>3 | 4=>4 | 5=>5 | 46=>194 | 146=>223 | 51=>222 | n=>n,fun | 1=>0 | n=>n⟩
theorem Tryz.lays143:Go.Proofs.Lays.n143 Tryz.prog Tryz.lays143_ren:={
 mixed:=by kernel_rfl
 f143:=Tryz.func226.trans (congrArg some (by kernel_rfl))
 f217:=Tryz.func201.trans (congrArg some (by kernel_rfl))
 f219:=Tryz.func182.trans (congrArg some (by kernel_rfl))
 f224:=Tryz.func203.trans (congrArg some (by kernel_rfl))
 f225:=Tryz.func202.trans (congrArg some (by kernel_rfl))
 f266:=Tryz.func217.trans (congrArg some (by kernel_rfl))
 f267:=Tryz.func204.trans (congrArg some (by kernel_rfl))
 f314:=Tryz.func218.trans (congrArg some (by kernel_rfl))
 t3:=Tryz.underlying3
 a3:=Tryz.isAgg3
 z3:=Tryz.sizeOf3
 v3:=Tryz.zeroValue3
 t4:=Tryz.underlying4
 a4:=Tryz.isAgg4
 z4:=Tryz.sizeOf4
 v4:=Tryz.zeroValue4
 t5:=Tryz.underlying5
 a5:=Tryz.isAgg5
 z5:=Tryz.sizeOf5
 v5:=Tryz.zeroValue5
 t9:=Tryz.underlying9
 a9:=Tryz.isAgg9
 z9:=Tryz.sizeOf9
 v9:=Tryz.zeroValue9
 t46:=Tryz.underlying194
 a46:=Tryz.isAgg194
 z46:=Tryz.sizeOf194
 v46:=Tryz.zeroValue194
 t51:=Tryz.underlying222
 a51:=Tryz.isAgg222
 z51:=Tryz.sizeOf222
 v51:=Tryz.zeroValue222
 t146:=Tryz.underlying223
 a146:=Tryz.isAgg223
 z146:=Tryz.sizeOf223
 v146:=Tryz.zeroValue223
 g1:=by kernel_rfl }
open Go.RowKit Go.Lib in
theorem Tryz.strings_Index_one (s:ByteArray) (c:UInt8) (w:World):
 Calls Tryz.prog 226 #[.string s,.string ⟨#[c]⟩] w fun e w'=>e= .returned (.int .i64 (Lib.indexByte s.data.toList c))∧w'=w:=Any.strings_Index_one Tryz.lays143 s c w
def Tryz.lays138_ren:Go.Shelf.Ren:=⟨fun | 138=>225 | 195=>232 | 218=>234 | 143=>226 | 219=>182 | 217=>201 | 225=>202 | 224=>203 | 267=>204 | 266=>217 | 314=>218 | n=>n,fun | 9=>9 | 3=>3 | 4=>4 | 5=>5 | 0=>0 | 46=>194 | 146=>223 | 51=>222 | n=>n,fun | 1=>0 | n=>n⟩
theorem Tryz.lays138:Go.Proofs.Lays.n138 Tryz.prog Tryz.lays138_ren:={
 mixed:=by kernel_rfl
 f138:=Tryz.func225.trans (congrArg some (by kernel_rfl))
 f143:=Tryz.func226.trans (congrArg some (by kernel_rfl))
 f195:=Tryz.func232.trans (congrArg some (by kernel_rfl))
 f217:=Tryz.func201.trans (congrArg some (by kernel_rfl))
 f218:=Tryz.func234.trans (congrArg some (by kernel_rfl))
 f219:=Tryz.func182.trans (congrArg some (by kernel_rfl))
 f224:=Tryz.func203.trans (congrArg some (by kernel_rfl))
 f225:=Tryz.func202.trans (congrArg some (by kernel_rfl))
 f266:=Tryz.func217.trans (congrArg some (by kernel_rfl))
 f267:=Tryz.func204.trans (congrArg some (by kernel_rfl))
 f314:=Tryz.func218.trans (congrArg some (by kernel_rfl))
 t0:=Tryz.underlying0
 a0:=Tryz.isAgg0
 z0:=Tryz.sizeOf0
 v0:=Tryz.zeroValue0
 t3:=Tryz.underlying3
 a3:=Tryz.isAgg3
 z3:=Tryz.sizeOf3
 v3:=Tryz.zeroValue3
 t4:=Tryz.underlying4
 a4:=Tryz.isAgg4
 z4:=Tryz.sizeOf4
 v4:=Tryz.zeroValue4
 t5:=Tryz.underlying5
 a5:=Tryz.isAgg5
 z5:=Tryz.sizeOf5
 v5:=Tryz.zeroValue5
 t9:=Tryz.underlying9
 a9:=Tryz.isAgg9
 z9:=Tryz.sizeOf9
 v9:=Tryz.zeroValue9
 t46:=Tryz.underlying194
 a46:=Tryz.isAgg194
 z46:=Tryz.sizeOf194
 v46:=Tryz.zeroValue194
 t51:=Tryz.underlying222
 a51:=Tryz.isAgg222
 z51:=Tryz.sizeOf222
 v51:=Tryz.zeroValue222
 t146:=Tryz.underlying223
 a146:=Tryz.isAgg223
 z146:=Tryz.sizeOf223
 v146:=Tryz.zeroValue223
 g1:=by kernel_rfl }
open Go.RowKit Go.Lib in
theorem Tryz.strings_Count_one (s:ByteArray) (c:UInt8) (w:World):
 Calls Tryz.prog 225 #[.string s,.string ⟨#[c]⟩] w fun e w'=>e= .returned (.int .i64 (Lib.countByte s.data.toList c))∧w'=w:=Any.strings_Count_one Tryz.lays138 s c w
def Tryz.lays221_ren:Go.Shelf.Ren:=⟨fun | 221=>212 | 268=>224 | 138=>225 | 143=>226 | 195=>232 | 197=>233 | 218=>234 | 219=>182 | 260=>235 | 217=>201 | 225=>202 | 224=>203 | 267=>204 | 266=>217 | 314=>218 | n=>n,fun | 9=>9 | 3=>3 | 31=>43 | 4=>4 | 0=>0 | 105=>245 | 21=>21 | 5=>5 | 46=>194 | 119=>249 | 139=>252 | 138=>251 | 146=>223 | 51=>222 | n=>n,fun | 1=>0 | 3=>5 | 4=>6 | n=>n⟩
theorem Tryz.lays221:Go.Proofs.Lays.n221 Tryz.prog Tryz.lays221_ren:={
 mixed:=by kernel_rfl
 f138:=Tryz.func225.trans (congrArg some (by kernel_rfl))
 f143:=Tryz.func226.trans (congrArg some (by kernel_rfl))
 f195:=Tryz.func232.trans (congrArg some (by kernel_rfl))
 f197:=Tryz.func233.trans (congrArg some (by kernel_rfl))
 f217:=Tryz.func201.trans (congrArg some (by kernel_rfl))
 f218:=Tryz.func234.trans (congrArg some (by kernel_rfl))
 f219:=Tryz.func182.trans (congrArg some (by kernel_rfl))
 f221:=Tryz.func212.trans (congrArg some (by kernel_rfl))
 f224:=Tryz.func203.trans (congrArg some (by kernel_rfl))
 f225:=Tryz.func202.trans (congrArg some (by kernel_rfl))
 f260:=Tryz.func235.trans (congrArg some (by kernel_rfl))
 f266:=Tryz.func217.trans (congrArg some (by kernel_rfl))
 f267:=Tryz.func204.trans (congrArg some (by kernel_rfl))
 f268:=Tryz.func224.trans (congrArg some (by kernel_rfl))
 f314:=Tryz.func218.trans (congrArg some (by kernel_rfl))
 t0:=Tryz.underlying0
 a0:=Tryz.isAgg0
 z0:=Tryz.sizeOf0
 v0:=Tryz.zeroValue0
 t3:=Tryz.underlying3
 a3:=Tryz.isAgg3
 z3:=Tryz.sizeOf3
 v3:=Tryz.zeroValue3
 t4:=Tryz.underlying4
 a4:=Tryz.isAgg4
 z4:=Tryz.sizeOf4
 v4:=Tryz.zeroValue4
 t5:=Tryz.underlying5
 a5:=Tryz.isAgg5
 z5:=Tryz.sizeOf5
 v5:=Tryz.zeroValue5
 t9:=Tryz.underlying9
 a9:=Tryz.isAgg9
 z9:=Tryz.sizeOf9
 v9:=Tryz.zeroValue9
 t21:=Tryz.underlying21
 a21:=Tryz.isAgg21
 z21:=Tryz.sizeOf21
 v21:=Tryz.zeroValue21
 t31:=Tryz.underlying43
 a31:=Tryz.isAgg43
 z31:=Tryz.sizeOf43
 v31:=Tryz.zeroValue43
 t46:=Tryz.underlying194
 a46:=Tryz.isAgg194
 z46:=Tryz.sizeOf194
 v46:=Tryz.zeroValue194
 t51:=Tryz.underlying222
 a51:=Tryz.isAgg222
 z51:=Tryz.sizeOf222
 v51:=Tryz.zeroValue222
 t105:=Tryz.underlying245
 a105:=Tryz.isAgg245
 z105:=Tryz.sizeOf245
 v105:=Tryz.zeroValue245
 t119:=Tryz.underlying249
 a119:=Tryz.isAgg249
 z119:=Tryz.sizeOf249
 t138:=Tryz.underlying251
 a138:=Tryz.isAgg251
 z138:=Tryz.sizeOf251
 v138:=Tryz.zeroValue251
 t139:=Tryz.underlying252
 a139:=Tryz.isAgg252
 z139:=Tryz.sizeOf252
 v139:=Tryz.zeroValue252
 t146:=Tryz.underlying223
 a146:=Tryz.isAgg223
 z146:=Tryz.sizeOf223
 v146:=Tryz.zeroValue223
 g1:=by kernel_rfl
 g3:=by kernel_rfl
 g4:=by kernel_rfl }
end Go.Proofs


namespace Go.Proofs.YtkmcengmglgdeaaGreatDoor
set_option linter.unusedVariables false
set_option linter.unusedSimpArgs false
set_option maxRecDepth 100000
set_option maxHeartbeats 8000000
open Go.ChangeShapes Go.WideShapes Go.ChangeAt Go.RowKit
theorem TF {c:UInt8} {l:List UInt8} (h:c∈l):∃a b,l=a++c::b∧c∉a:=by
 induction l with
 |nil=>cases h
 |cons x l ih=>
  by_cases e:x=c
  ·exact⟨[],l,by rw[e];rfl,by simp⟩
  ·obtain⟨a,b,rfl,ha⟩:=ih (by simpa[Ne.symm e] using h);exact⟨x::a,b,rfl,by simp[Ne.symm e,ha]⟩
theorem PD (c:UInt8) (n:Nat):∀l:List UInt8,l.length≤n→Lib.splitK [c] 0 (l.count c) l=fQ c [] l:=by
 induction n with
 |zero=>
  intro l hl;obtain rfl:=List.eq_nil_of_length_eq_zero (Nat.le_zero.1 hl)
  rfl
 |succ n ih=>
  intro l hl
  by_cases h:c∈l
  ·obtain⟨a,b,rfl,ha⟩:=TF h;have hi:Lib.index (a++c::b) [c]=(a.length:Nat):=by rw[Lib.index_one,yV ha]
   have hc:(a++c::b).count c=b.count c+1:=by
    rw[List.count_append,List.count_cons_self,List.count_eq_zero_of_not_mem ha];omega
   rw[hc,Lib.splitK,hi,if_neg (by simp),oP ha,bW];simp only[Nat.add_zero,List.take_left,List.nil_append,bM,List.length_nil];rw[show(a++c::b).drop (a.length+(0+1))=b by rw[←List.drop_drop,List.drop_left];rfl];rw[ih b (by simp at hl;omega)]
  ·rw[nX h,List.count_eq_zero_of_not_mem h]
   first | done | rfl
theorem VJ (s:ByteArray) (w:World) (hs:s.size<4294967281):
  Calls Tryz.prog 194 #[.string s,.string ⟨#[32]⟩] w fun e w'=>e= .returned (.slice (some ⟨w.heap.size,0,none⟩) (fQ 32 [] s.data.toList).length (fQ 32 [] s.data.toList).length)∧
   w'=w.alloc (.cells ((fQ 32 [] s.data.toList).map fun l=>Value.string ⟨l.toArray⟩).toArray 9):=by
 have h1:1≤(⟨#[32]⟩:ByteArray).size:=by decide
 have hle:=Lib.countB_le ⟨#[32]⟩ h1 s.size s (aA _);have hlen:=Lib.splitB_all ⟨#[32]⟩ h1 0 _ s rfl;have hcb:Lib.countB s ⟨#[32]⟩=s.data.toList.count 32:=Lib.count_one 32 s.data.toList
 have hsp:(Lib.splitB ⟨#[32]⟩ 0 (Lib.countB s ⟨#[32]⟩) s).map (·.data.toList)=fQ 32 [] s.data.toList:=by
  rw[Lib.splitB_data,hcb];exact PD 32 _ _ (aA _)
 have c:=Any.strings_genSplit_core Tryz.lays221 (by kernel_rfl) s ⟨#[32]⟩ 0 (-1) (Lib.countB s ⟨#[32]⟩+1) w hs h1 (Nat.zero_le _)
  (fun x c hx=>(Tryz.strings_Index_one x 32 _).mono fun e w' ⟨he,hw⟩=>⟨by rw[he];show _=Ending.returned (Value.int .i64 (Lib.index x.data.toList [32]));rw[Lib.index_one],hw⟩)
  ((Tryz.strings_Count_one s 32 w).mono fun e w' ⟨he,hw⟩=>⟨by rw[he,hcb];rfl,hw⟩)
  (by decide) (by decide) (by rw[if_pos (by decide)];omega)
 rw[Nat.add_sub_cancel,hlen] at c;have e2:Lib.cellsOf (Lib.splitB ⟨#[32]⟩ 0 (Lib.countB s ⟨#[32]⟩) s) (Lib.countB s ⟨#[32]⟩+1)=((Lib.splitB ⟨#[32]⟩ 0 (Lib.countB s ⟨#[32]⟩) s).map Value.string).toArray:=by rw[←hlen];exact Lib.cellsOf_full _
 have e3:(Lib.splitB ⟨#[32]⟩ 0 (Lib.countB s ⟨#[32]⟩) s).map Value.string=(fQ 32 [] s.data.toList).map fun l=>Value.string ⟨l.toArray⟩:=by
  rw[←hsp,List.map_map]
  rfl
 have e4:Lib.countB s ⟨#[32]⟩+1=(fQ 32 [] s.data.toList).length:=by rw[←hsp,List.length_map,hlen]
 rw[e2,e3,e4] at c;obtain⟨m,hm⟩:∃m,(fQ 32 [] s.data.toList).length=m:=⟨_,rfl⟩;obtain⟨cs,hcs⟩:∃cs,((fQ 32 [] s.data.toList).map fun l=>Value.string ⟨l.toArray⟩).toArray=cs:=⟨_,rfl⟩;rw[hm,hcs] at c ⊢
 have C:=af c;clear c e2 e3 e4 hsp hcb hlen hle hm hcs;go_enter Tryz.func194,Tryz.ntmps194
 go_wp2_with fail
 refine C.out.mono ?_;rintro e w' ⟨rfl,rfl⟩;go_wp2;go_ret;exact⟨rfl,rfl⟩
def lF (w:World):Prop:=Lib.TabIs Tryz.prog w "internal/strconv.uint64pow10" .u64 Lib.pow10Tab
theorem lF.up {w w':World} (h:lF w) (hb:Below w.heap.size w w'):lF w':=Lib.tabBelow_of_tabIs h w' hb
theorem Gg (n:Nat):Lib.decDigits n=jm n:=by
 induction n using Nat.strongRecOn with
 |_ n ih=>
  by_cases h:n<10
  ·rw[Lib.decDigits_one h,lX h];rfl
  ·rw[Lib.decDigits,dif_neg h,qo h,ih (n/10) (by omega)];rfl
theorem Ez (n:Nat) (hn:n<100000000000) (w:World) (h:lF w):
  Calls Tryz.prog 95 #[.int .i64 (n:Int)] w fun e w'=>e= .returned (.string ⟨(jm n).toArray⟩)∧Below w.heap.size w w':=
 (Tryz.strconv_Itoa (n:Int) (by omega) (by omega) w h).mono fun e w' ⟨he,k,os,hw⟩=>by
  refine⟨?_,?_⟩
  ·rw[he]
   unfold Lib.itoa
   rw[if_neg (by omega),bW,Gg]
  ·subst hw;exact Lib.below_grow _ w (aA _) k os
open Go.ChangeShapes Go.WideShapes Go.RowKit
theorem QX {l:List (String×DataW Unit)} {W:World} (h:laidMetH Tryz.prog l W) (hf:(l.filter fun x=>x.1 == "internal/strconv.uint64pow10")=[("internal/strconv.uint64pow10",Rows.laid_internal_strconv_uint64pow10)]):lF W:=by
 have h1:=h.filter fun x=>x.1 == "internal/strconv.uint64pow10"
 rw[hf] at h1;have h2:laidMet Tryz.prog [("internal/strconv.uint64pow10",Lib.tabData .u64 Lib.pow10Tab)] W:=h1;exact Lib.tabIs_of_head (g:=2) (t:=226) (e:=196) (n:=20) (by kernel_rfl) (by kernel_rfl) Tryz.underlying226 Tryz.underlying196 (by kernel_rfl) (by kernel_rfl) h2
def qV:List Int→List UInt8
 | []=>[]
 |x::r=>jm x.toNat++r.flatMap fun k=>44::jm k.toNat
theorem L9 {xs:List Int} (h:xs≠[]):FP xs=qV xs:=by
 cases xs with
 |nil=>exact absurd rfl h
 |cons x r=>rfl
theorem Hl {xs:List Int} {x:Int} (h:xs[0]? =some x):qV (xs.take 1)=jm x.toNat:=by
 cases xs with
 |nil=>cases h
 |cons y r=>simp at h;subst h;simp[qV]
theorem Ho {xs:List Int} {k:Nat} {x:Int} (h:xs[k+1]? =some x):qV (xs.take (k+2))=qV (xs.take (k+1))++44::jm x.toNat:=by
 cases xs with
 |nil=>cases h
 |cons y r=>
  simp only[List.getElem?_cons_succ] at h;simp only[List.take_succ_cons,qV];rw[List.take_add_one,h]
  simp
theorem L8 {xs:List Int} (h:∀x∈xs,0≤x∧x<100):(qV xs).length≤3*xs.length:=by
 have hd:∀x:Int,0≤x∧x<100→(jm x.toNat).length≤2:=fun x hx=>rG 1 _ (by omega)
 cases xs with
 |nil=>simp[qV]
 |cons y r=>
  have h1:=hd y (h y (List.mem_cons_self ..))
  have h2:(r.flatMap fun k=>44::jm k.toNat).length≤3*r.length:=by
   have h':∀x∈r,0≤x∧x<100:=fun x hx=>h x (List.mem_cons_of_mem _ hx)
   clear h h1
   induction r with
   |nil=>simp
   |cons z r ih=>
    have h3:=hd z (h' z (List.mem_cons_self ..))
    have:=ih fun x hx=>h' x (List.mem_cons_of_mem _ hx)
    simp only[List.flatMap_cons,bQ,bM];omega
  simp only[qV,bQ,bM];omega
theorem MG (A:Option Addr) (n c:Nat) (xs:List Int) (w:World) (h:jd .i64 w w.heap.size A n c xs) (hx:∀x∈xs,0≤x∧x<100) (hn:n≤100):
  Calls Tryz.prog 115 #[.slice A n c] w fun e w'=>e= .returned (.string ⟨(FP xs).toArray⟩)∧Below w.heap.size w w':=by
 have hl:=h.len
 by_cases h0:n=0
 ·subst h0;obtain rfl:=List.eq_nil_of_length_eq_zero hl;go_enter Tryz.func115,Tryz.ntmps115;go_wp2;go_ret;exact⟨rfl,ai _ _⟩
 have h0':((n:Int) == 0)=false:=beq_false_of_ne (by omega);have HM:Hid (FP xs=qV xs):=af (L9 (by rintro rfl;exact h0 (by simpa using hl.symm)));have HL:=af hl;have HX:=af hx;have H:=af h;obtain⟨b,hb⟩:∃b,w.heap.size=b:=⟨_,rfl⟩;have HT0:Hid (TS w b (qV (xs.take 0)) [] (w.alloc (.cells #[.pointer none,.slice none 0 0] 117))):=af (by rw[←hb];exact TS.acX w);clear hl hx h h0;go_enter Tryz.func115,Tryz.ntmps115;go_wp2
 try rw[hb]
 clear hb h0'
 go_loopw [11] (fun i wr=>∃k:Nat,k≤n∧i= .int .i64 k∧Hid (TS w b (qV (xs.take k)) [] wr)) (fun i _=>n-(intOf i).toNat)
 case atStart=>exact⟨0,by omega,rfl,HT0⟩
 case round=>
  clear HT0;obtain⟨k,hk,rfl,HT⟩:=hrel
  by_cases hlt:k<n
  ·obtain⟨db,off,x,rfl,hdb,hxx,hw,hc⟩:=H.out.get hlt;have hcr:wr.cell? ⟨db,off+k,none⟩=some (.int .i64 x):=(aF HT.out.below db _ hdb).trans hc;have hxm:=HX.out x (bT hxx);obtain⟨x,rfl⟩:=bC hxm.1;have zk:x<100:=by omega
   have HZ:=af (show(qV (xs.take k)).length≤300 by
    have h1:=L8 (xs:=xs.take k) fun x hx=>HX.out x (List.mem_of_mem_take hx)
    have:(xs.take k).length≤k:=List.length_take_le _ _
    omega)
   have NI:=af (jJ x).2;have HD:Hid (jm x=iI x):=af (yT zk);have HXX:=af hxx;clear hc hw hxx hxm
   rcases Nat.eq_zero_or_pos k with hk0 | hk0
   ·subst hk0;simp only[Nat.add_zero] at hcr
    go_wp2_with fail
    refine(qw x zk _).mono ?_;rintro e w1 ⟨rfl,rfl⟩
    go_wp2_with fail
    refine(HT.out.ws _ (iI x) rfl (by have:=HZ.out;have:=NI.out;omega)).mono ?_;rintro e w2 ⟨rfl,h2⟩;have HT2:Hid (TS w b (qV (xs.take 1)) [] w2):=af (by rw[Hl HXX.out,bW,HD.out];exact h2);clear h2;go_wp2
    go_roundw
    case rel=>exact⟨1,by omega,by go_num,HT2⟩
    case measure=>simp[intOf];omega
   ·have hk0':(0:Int)<(k:Int):=by omega
    have HS:Hid (qV (xs.take (k+1))=qV (xs.take k)++44::jm x):=af (by
     obtain⟨j,rfl⟩:∃j,k=j+1:=⟨k-1,by omega⟩
     exact Ho HXX.out)
    clear hk0
    go_wp2_with fail
    refine(HT.out.wb 44 (by have:=HZ.out;omega)).mono ?_;rintro e w1 ⟨rfl,h1⟩;have HT1:=af h1;clear h1
    go_wp2_with fail
    refine(qw x zk _).mono ?_;rintro e w1' ⟨rfl,rfl⟩
    go_wp2_with fail
    refine(HT1.out.ws _ (iI x) rfl (by have:=HZ.out;have:=NI.out;simp only[bQ,bM,List.length_nil];omega)).mono ?_;rintro e w2 ⟨rfl,h2⟩;have HT2:Hid (TS w b (qV (xs.take (k+1))) [] w2):=af (by rw[HS.out,HD.out];simpa using h2);clear h2;go_wp2
    go_roundw
    case rel=>exact⟨k+1,by omega,by go_num,HT2⟩
    case measure=>simp[intOf];omega
  ·have hke:k=n:=by omega
   have HE:Hid (FP xs=qV (xs.take k)):=af (by rw[HM.out,hke,←HL.out,List.take_length]);clear hke
   go_wp2_with fail
   refine HT.out.done.mono ?_;rintro e w2 ⟨rfl,hb2⟩;have HB:=af hb2;clear hb2;go_wp2;go_ret;exact⟨dK (by rw[HE.out]),HB.out⟩
def vG (ds:List au) (S:Nat):Prop:=∀(k:Nat) (d:au) (s q:Nat),ds[k]? =some d→s<32→bD d s=some q→bit S s=1→bit S q=1
def tH (ds:List au) (S k m:Nat):Prop:=∀(j:Nat) (d:au) (s q:Nat),ds[j]? =some d→s<32→(j<k∨j=k∧s<m)→bD d s=some q→bit S s=1→bit S q=1
theorem Tq (ds:List au) (S:Nat):tH ds S 0 0:=fun j d s q _ _ h _=>by omega
theorem Tt {ds:List au} {S k:Nat} (h:tH ds S k 32):tH ds S (k+1) 0:=fun j d s q hj hs hk e=>h j d s q hj hs (by omega) e
theorem Aq {ds:List au} {S k m:Nat} {d:au} (h:tH ds S k m) (hd:ds[k]? =some d) (g:∀q,bD d m=some q→bit S m=1→bit S q=1):tH ds S k (m+1):=fun j d' s q hj hs hk e'=>by
 by_cases h1:j=k∧s=m
 ·obtain⟨rfl,rfl⟩:=h1;rw[hd] at hj;cases hj;exact g q e'
 ·exact h j d' s q hj hs (by omega) e'
theorem VK {ds:List au} {S:Nat} (h:tH ds S ds.length 0):vG ds S:=fun k d s q hk hs e=>h k d s q hk hs (Or.inl (bI.1 hk).1) e
theorem VL {ds:List au} {S k m q:Nat} {d:au} (hm:m<32) (hd:ds[k]? =some d) (e:bD d m=some q) (h1:bit S m=1) (h0:bit S q=0):¬vG ds S:=fun h=>by have:=h k d m q hd hm e h1;omega
theorem VN {S:Nat} (hS:S<4294967296) (xs:List Int):S &&& lG xs=0↔∀s,s<32→gq S s=true→aH xs s=false:=by
 have h1:S &&& lG xs=aQ (fun s=>gq S s&&aH xs s) 32:=by
  conv=>lhs;rw[←Gu S 32 hS]
  exact Dz _ _ 32
 rw[h1,kV]
 constructor
 ·intro h s hs h2
  have:=h s hs
  rw[h2] at this
  simpa using this
 ·intro h s hs
  cases h2:gq S s with
  |false=>rfl
  |true=>rw[h s hs h2];rfl
theorem EH {t:aB} {S:Nat} (h:aK t=true) (hS:S<4294967296):eF t (S:Int)=true↔bit S t.start.toNat=1∧S &&& lG t.goal=0∧vG t.ay S:=by
 rw[VN hS]
 unfold eF
 rw[h,bW,decide_eq_true (show(0:Int)≤(S:Int)∧(S:Int)<4294967296 by omega)];simp only[Bool.true_and,Bool.and_eq_true,List.all_eq_true,List.mem_range,Bool.or_eq_true,Bool.not_eq_true']
 constructor
 ·rintro⟨h1,h2⟩;refine⟨by simpa[gq] using h1,fun s hs e=>?_,fun k d s q hk hs e hb=>?_⟩
  ·rcases h2 s hs with h3 | h3
   ·rw[e] at h3;cases h3
   ·exact h3.1
  ·rcases h2 s hs with h3 | h3
   ·simp[gq,hb] at h3
   ·have:=h3.2 d (bT hk)
    rw[e] at this
    simpa[gq] using this
 ·rintro⟨h1,h2,h3⟩;refine⟨by simpa[gq] using h1,fun s hs=>?_⟩
  cases hb:gq S s with
  |false=>left;rfl
  |true=>
   right
   refine⟨h2 s hs hb,fun d hd=>?_⟩
   cases e:bD d s with
   |none=>rfl
   |some q=>
    obtain⟨k,hk,rfl⟩:=List.getElem_of_mem hd
    have:=h3 k _ s q (bH hk) hs e (by simpa[gq] using hb)
    simpa[gq] using this
theorem tC {t:aB} {z:Int} (h:¬(0≤z∧z<4294967296)):eF t z=false:=by
 unfold eF;rw[decide_eq_false h];simp
theorem JD {p q:Nat→Bool}:aQ p 32 &&& aQ q 32=aQ p 32↔∀s,s<32→p s=true→q s=true:=by
 rw[Dz]
 constructor
 ·intro h s hs hp
  have:=KR h s hs
  rw[hp] at this
  simpa using this
 ·intro h;refine cO fun s hs=>?_
  cases hp:p s with
  |false=>rfl
  |true=>rw[h s hs hp];rfl
theorem F8 {t:aB} {S:Nat} (h:aK t=true) (hS:S<4294967296):aQ (lH t.ay (gq S)) 32 &&& S=aQ (lH t.ay (gq S)) 32↔vG t.ay S:=by
 have e:S=aQ (gq S) 32:=(Gu S 32 hS).symm
 conv=>lhs;lhs;rhs;rw[e]
 rw[JD];have hd:=(aJ t h).2.2.2
 constructor
 ·intro g k d s q hk hs eq hb;have hdm:=bT hk
  have:=g q (iy d s q (hd d hdm) hs eq) (yY.2 ⟨s,hs,by simpa[gq] using hb,d,hdm,eq⟩)
  simpa[gq] using this
 ·intro g q hq hf;obtain⟨s,hs,hb,d,hdm,eq⟩:=yY.1 hf;obtain⟨k,hk,rfl⟩:=List.getElem_of_mem hdm
  have:=g k _ s q (bH hk) hs eq (by simpa[gq] using hb)
  simpa[gq] using this
end Go.Proofs.YtkmcengmglgdeaaGreatDoor
