/- Joined texts: CondT, CondW, Let. -/
import Derived.Test.YtkmcengmglgdeaaGreatDoorSJourP
import Derived.Test.YtkmcengmglgdeaaGreatDoorSDoI
import Derived.Deep.Cut
import Derived.Test.YtkmcengmglgdeaaGreatDoorSNum
import Derived.Test.YtkmcengmglgdeaaGreatDoorSActT
import Derived.Test.YtkmcengmglgdeaaGreatDoorSActR
import Derived.Test.YtkmcengmglgdeaaGreatDoorSApp
import Derived.Lib.UnsafeStr

namespace Go.Proofs.YtkmcengmglgdeaaGreatDoor
set_option linter.unusedVariables false
set_option linter.unusedSimpArgs false
set_option maxRecDepth 100000
set_option maxHeartbeats 8000000
open Go.ChangeShapes Go.WideShapes Go.ChangeAt Go.RowKit
def partT (c:Cond) (b:Bool):List UInt8:=if b=true then 40::(c.text 0++[41]) else c.text 0
theorem Io (c:Cond) (b:Bool):(partT c b).length≤5*c.steps.length+2:=by
 have:=c.oU 0
 unfold partT
 split<;>(try simp only[bM,bQ,List.length_nil])<;>omega
theorem pO {c:Cond} (h:c.Ok):c.mine=if c.last=8 then 2 else if c.last=9 then 1 else 3:=by
 cases c with
 |one s=>
  obtain⟨h1,h2⟩:0≤s∧s≤6:=h
  show(3:Nat)=if s=8 then 2 else if s=9 then 1 else 3
  rw[if_neg (by omega),if_neg (by omega)]
 |turn p=>rfl
 |join s l r=>
  rcases h.1 with rfl | rfl<;>rfl
theorem oh {c:Cond} (h:c.Ok) (k:Nat) (hk:k≤3) (b:Bool) (hb:b=decide (c.mine<k)):c.text k=partT c b:=by
 rw[c.F9 k hk];subst hb
 unfold partT
 by_cases h1:c.mine<k
 ·rw[if_pos h1,decide_eq_true h1,if_pos rfl]
 ·rw[if_neg h1,decide_eq_false h1,if_neg (by simp)]
theorem br2 {c:Cond} (h:c.Ok) {x:Int} (hx:c.last=x):decide (c.mine<2)=(x == 9):=by
 rw[pO h,hx]
 by_cases h8:x=8
 ·subst h8;rfl
 ·by_cases h9:x=9
  ·subst h9;rfl
  ·rw[if_neg h8,if_neg h9,beq_false_of_ne h9];rfl
theorem br3 {c:Cond} (h:c.Ok) {x:Int} (hx:c.last=x):decide (c.mine<3)=(x == 9||x == 8):=by
 rw[pO h,hx]
 by_cases h8:x=8
 ·subst h8;rfl
 ·by_cases h9:x=9
  ·subst h9;rfl
  ·rw[if_neg h8,if_neg h9,beq_false_of_ne h9,beq_false_of_ne h8];rfl
theorem br1 {c:Cond} (h:c.Ok):decide (c.mine<1)=false:=by
 rw[pO h]
 by_cases h8:c.last=8
 ·rw[if_pos h8];rfl
 ·by_cases h9:c.last=9
  ·rw[if_neg h8,if_pos h9];rfl
  ·rw[if_neg h8,if_neg h9];rfl
theorem nH (c:Cond) (b:Bool) {w:World} (ih:Calls Tryz.prog 191 #[c.val] w fun e w'=>e= .returned (.string ⟨(c.text 0).toArray⟩)∧Below w.heap.size w w') (hl:(c.text 0).length≤1000):
  Calls Tryz.prog 211 #[c.val,.bool b] w fun e w'=>e= .returned (.string ⟨(partT c b).toArray⟩)∧Below w.heap.size w w':=by
 obtain⟨T,hT⟩:∃x,c.text 0=x:=⟨_,rfl⟩;have h1:¬9223372036854775807<1+T.length:=by rw[←hT];omega
 have h2:¬9223372036854775807<1+T.length+1:=by rw[←hT];omega
 obtain⟨cv,hcv⟩:∃x,c.val=x:=⟨_,rfl⟩;have HP:=Bx.mk (show∀b,partT c b=if b=true then 40::(T++[41]) else T by intro b;unfold partT;rw[hT]);rw[hT,hcv] at ih;rw[hcv];have IH:=af ih;clear ih hl hT hcv
 cases b with
 |true=>
  go_enter Tryz.func211,Tryz.ntmps211
  go_wp2_with fail
  refine IH.out.mono ?_;rintro e w1 ⟨rfl,hb⟩;have HB:=af hb;clear hb;go_wp2;go_ret;exact⟨dK (by rw[HP.out,if_pos rfl,show(⟨#[40]⟩:ByteArray)=⟨[40].toArray⟩ from rfl,show(⟨#[41]⟩:ByteArray)=⟨[41].toArray⟩ from rfl,iV,iV];simp),HB.out⟩
 |false=>
  go_enter Tryz.func211,Tryz.ntmps211
  go_wp2_with fail
  refine IH.out.mono ?_;rintro e w1 ⟨rfl,hb⟩;have HB:=af hb;clear hb;go_wp2;go_ret;exact⟨dK (by rw[HP.out,if_neg (by simp)]),HB.out⟩
theorem TU (s:Int) (l r:Cond):(Cond.join s l r).text 0=l.text (if s=8 then 2 else 1)++(if s=8 then 38 else 124)::r.text ((if s=8 then 2 else 1)+1):=by
 simp only[Cond.text,Nat.not_lt_zero,if_false]
theorem ba3 (a b:List UInt8) (x:UInt8):(⟨a.toArray⟩++⟨#[x]⟩++⟨b.toArray⟩:ByteArray)=⟨(a++x::b).toArray⟩:=by
 rw[show(⟨#[x]⟩:ByteArray)=⟨[x].toArray⟩ from rfl,iV,iV];simp
theorem zx (c:Cond):c.Ok→c.steps.length≤150→∀w:World,
  Calls Tryz.prog 191 #[c.val] w fun e w'=>e= .returned (.string ⟨(c.text 0).toArray⟩)∧Below w.heap.size w w':=by
 induction c with
 |one s=>
  intro hok hl w;have HS:=Bx.mk hok;clear hl hok;simp only[Cond.val];have HB0:Hid (Below w.heap.size w (w.alloc (.cells #[.int .i64 s] 202))):=af ((ai _ _).alloc (aA _) _);have a1:=EY;go_enter Tryz.func191,Tryz.ntmps191
  go_wp2_with fail
  refine(EZ s HS.out.1 HS.out.2 _).mono ?_;rintro e w1 ⟨rfl,hb⟩;have HB:=af (HB0.out.trans (hb.mono HB0.out.size));clear hb HB0;go_wp2;go_ret;exact⟨rfl,HB.out⟩
 |turn p ih=>
  intro hok hl w;have HIH:=Bx.mk (ih hok (by simp only[Cond.steps,bQ,bM,List.length_nil] at hl;omega));have HTP:=Bx.mk (show(p.text 0).length≤1000 by have:=p.oU 0;simp only[Cond.steps,bQ,bM,List.length_nil] at hl;omega);obtain⟨lp,hlp⟩:∃x,p.last=x:=⟨_,rfl⟩;have bG:=Bx.mk (show p.Ok from hok);have HLP:=Bx.mk hlp;simp only[Cond.val];obtain⟨pt,pd,hpv⟩:=p.kP;rw[hpv];have ZE:=Bx.mk hpv;have HB0:Hid (Below w.heap.size w (w.alloc (.cells #[.iface pt pd] 204))):=af ((ai _ _).alloc (aA _) _);have ZC:Hid ((w.alloc (.cells #[.iface pt pd] 204)).cell? ⟨w.heap.size,0,none⟩=some (.iface pt pd)):=af ((fU.new w 204 #[.iface pt pd]).cell 0);have HG0:Hid (w.heap.size<(w.alloc (.cells #[.iface pt pd] 204)).heap.size):=af (by simp);clear hl hok ih hlp hpv;have a1:=BJ;have a2:=JL;go_enter Tryz.func191,Tryz.ntmps191
  go_wp2_with fail
  rw[←ZE.out];refine(tJ p _).mono ?_;rw[ZE.out,HLP.out];rintro e w1 ⟨rfl,hb⟩;have c1:w1.cell? ⟨w.heap.size,0,none⟩=some (.iface pt pd):=(aF hb _ _ HG0.out).trans ZC.out;have HB:=af (HB0.out.trans (hb.mono HB0.out.size));clear hb HB0 ZC HG0;obtain⟨b,hb⟩:∃x,decide (p.mine<3)=x:=⟨_,rfl⟩;have HT:Hid ((Cond.turn p).text 0=33::partT p b):=af (by show 33::p.text 3=_;rw[oh bG.out 3 (by omega) b hb.symm]);rw[pO bG.out,HLP.out] at hb;have HL:Hid ((partT p b).length≤1002):=af (by unfold partT;have:=HTP.out;split<;>(try simp only[bM,bQ,List.length_nil])<;>omega);obtain⟨S,hS⟩:∃x,partT p b=x:=⟨_,rfl⟩;rw[hS] at HT HL;have HS:=Bx.mk hS;have h1:¬9223372036854775807<1+S.length:=by have:=HL.out;omega
  clear hS
  by_cases h8:lp=8
  ·subst h8;obtain rfl:b=true:=by rw[←hb];rfl
   clear hb
   go_wp2_with fail
   rw[←ZE.out];refine(nH p true (HIH.out _) HTP.out).mono ?_;rw[ZE.out,HS.out];rintro e w2 ⟨rfl,hb2⟩;have HB2:=af (HB.out.trans (hb2.mono HB.out.size));clear hb2;go_wp2;go_ret;exact⟨dK (by rw[HT.out,show(⟨#[33]⟩:ByteArray)=⟨[33].toArray⟩ from rfl,iV];rfl),HB2.out⟩
  ·by_cases h9:lp=9
   ·subst h9;obtain rfl:b=true:=by rw[←hb];rfl
    clear hb
    go_wp2_with fail
    rw[←ZE.out];refine(nH p true (HIH.out _) HTP.out).mono ?_;rw[ZE.out,HS.out];rintro e w2 ⟨rfl,hb2⟩;have HB2:=af (HB.out.trans (hb2.mono HB.out.size));clear hb2;go_wp2;go_ret;exact⟨dK (by rw[HT.out,show(⟨#[33]⟩:ByteArray)=⟨[33].toArray⟩ from rfl,iV];rfl),HB2.out⟩
   ·obtain rfl:b=false:=by rw[←hb,if_neg h8,if_neg h9];rfl
    have e8:(lp == 8)=false:=by simpa using h8
    have e9:(lp == 9)=false:=by simpa using h9
    clear hb h8 h9
    go_wp2_with fail
    rw[←ZE.out];refine(nH p false (HIH.out _) HTP.out).mono ?_;rw[ZE.out,HS.out];rintro e w2 ⟨rfl,hb2⟩;have HB2:=af (HB.out.trans (hb2.mono HB.out.size));clear hb2;go_wp2;go_ret;exact⟨dK (by rw[HT.out,show(⟨#[33]⟩:ByteArray)=⟨[33].toArray⟩ from rfl,iV];rfl),HB2.out⟩
 |join s l h ihl ihh=>
  intro hok hlen w;obtain⟨hs,PO,Yc⟩:=hok;simp only[Cond.steps,bQ,bM,List.length_nil] at hlen;have ihl:=ihl PO (by omega);have ihh:=ihh Yc (by omega);have OA:=Bx.mk (show(l.text 0).length≤1000 by have:=l.oU 0;omega);have HTH:=Bx.mk (show(h.text 0).length≤1000 by have:=h.oU 0;omega);have HOL:=Bx.mk (pO PO);have HOH:=Bx.mk (pO Yc);have HKL:=Bx.mk PO;have HKH:=Bx.mk Yc;have HTX:=Bx.mk (TU s l h);have IHL:=af ihl;have IHH:=af ihh;have Zv:=Bx.mk hs;obtain⟨ll,hll⟩:∃x,l.last=x:=⟨_,rfl⟩;obtain⟨hl,hhl⟩:∃x,h.last=x:=⟨_,rfl⟩;have ND:=Bx.mk (show∀w:World,Calls Tryz.prog 210 #[l.val] w fun e w'=>e= .returned (.int .i64 ll)∧Below w.heap.size w w' by intro w;rw[←hll];exact tJ l w);have HHL:=Bx.mk (show∀w:World,Calls Tryz.prog 210 #[h.val] w fun e w'=>e= .returned (.int .i64 hl)∧Below w.heap.size w w' by intro w;rw[←hhl];exact tJ h w);have BR:=Bx.mk hll;have HQH:=Bx.mk hhl;have BO:=Bx.mk (show∀b (w:World),Calls Tryz.prog 211 #[l.val,.bool b] w fun e w'=>e= .returned (.string ⟨(partT l b).toArray⟩)∧Below w.heap.size w w' from fun b w=>nH l b (ihl w) OA.out);have HPH:=Bx.mk (show∀b (w:World),Calls Tryz.prog 211 #[h.val,.bool b] w fun e w'=>e= .returned (.string ⟨(partT h b).toArray⟩)∧Below w.heap.size w w' from fun b w=>nH h b (ihh w) HTH.out);have HNL:=Bx.mk (show∀b,(partT l b).length≤1000 by intro b;have:=Io l b;omega);have HNH:=Bx.mk (show∀b,(partT h b).length≤1000 by intro b;have:=Io h b;omega);simp only[Cond.val];obtain⟨lt,ld,hlv⟩:=l.kP;obtain⟨hvt,hvd,hhv⟩:=h.kP;rw[hlv] at ND BO ⊢
  rw[hhv] at HHL HPH ⊢
  have HB0:Hid (Below w.heap.size w (w.alloc (.cells #[.int .i64 s,(.iface lt ld),(.iface hvt hvd)] 208))):=af ((ai _ _).alloc (aA _) _);have K:=fU.new w 208 #[.int .i64 s,(.iface lt ld),(.iface hvt hvd)];have C0:=af (K.cell 0);have C1:=af (K.cell 1);have C2:=af (K.cell 2);have HG:Hid (w.heap.size<(w.alloc (.cells #[.int .i64 s,(.iface lt ld),(.iface hvt hvd)] 208)).heap.size):=af (by simp);clear K hlen hs PO Yc ihl ihh hll hhl hlv hhv;have a1:=BK;have a2:=JM;have a3:=zy;go_enter Tryz.func191,Tryz.ntmps191
  go_upto_region 11 with(fail)
  obtain⟨g,hg⟩:∃x,w.heap.size=x:=⟨_,rfl⟩;obtain⟨wb,hwb⟩:∃x,w.alloc (.cells #[.int .i64 s,(.iface lt ld),(.iface hvt hvd)] 208)=x:=⟨_,rfl⟩;rw[hwb] at HB0 C0 C1 C2 HG ⊢
  rw[hg] at HB0 C0 C1 C2 HG ⊢
  have C0:Hid (wb.cell? ⟨g,0,none⟩=some (.int .i64 s)):=C0;have C1:Hid (wb.cell? ⟨g,1,none⟩=some (.iface lt ld)):=C1;have C2:Hid (wb.cell? ⟨g,2,none⟩=some (.iface hvt hvd)):=C2;clear hwb
  refine kG (σ:=Unit)
   (fun _ i=>match i with
   |0=>.pointer (some ⟨g,1,none⟩)
   |1=>.iface lt ld
   |2=>.int .i64 ll
   |3=>.pointer (some ⟨g,2,none⟩)
   |4=>.iface hvt hvd
   |5=>.int .i64 hl
   |6=>.int .i64 ll
   |7=>.int .i64 hl
   |_=>undef)
   (fun D _ wx=>Below wb.heap.size wb wx) () (fun D hD=>(ai _ _).drew) ?_ ?_
  ·refine Cs (fun D _ wx hR _ hd _ _ hs K hK=>?_) ?_
   ·have e6:=hs.o 6 (.pointer (some ⟨g,0,none⟩));clear hs;go_simp;exact hK () wx sv hR
   refine Cs (fun D _ wx hR _ hd _ _ hs K hK=>?_) ?_
   ·have e35:=hs.v 0 35 hd;clear hs;have c0:wx.cell? ⟨g,1,none⟩=some (.iface lt ld):=(aF hR _ _ HG.out).trans C1.out;go_simp;exact hK () wx sv hR
   refine Cs (fun D _ wx hR _ hd _ _ hs K hK=>?_) ?_
   ·have e36:=hs.v 1 36 hd;have g36:=aX e36;clear hs;go_simp;refine(ND.out wx).mono ?_;rintro e2 w2 ⟨rfl,hb2⟩;exact hK () w2 sv (hR.trans (hb2.mono hR.size))
   refine Cs (fun D _ wx hR _ hd _ _ hs K hK=>?_) ?_
   ·have e6:=hs.o 6 (.pointer (some ⟨g,0,none⟩));clear hs;go_simp;exact hK () wx sv hR
   refine Cs (fun D _ wx hR _ hd _ _ hs K hK=>?_) ?_
   ·have e38:=hs.v 3 38 hd;clear hs;have c0:wx.cell? ⟨g,2,none⟩=some (.iface hvt hvd):=(aF hR _ _ HG.out).trans C2.out;go_simp;exact hK () wx sv hR
   refine Cs (fun D _ wx hR _ hd _ _ hs K hK=>?_) ?_
   ·have e39:=hs.v 4 39 hd;have g39:=aX e39;clear hs;go_simp;refine(HHL.out wx).mono ?_;rintro e2 w2 ⟨rfl,hb2⟩;exact hK () w2 sv (hR.trans (hb2.mono hR.size))
   refine Cs (fun D _ wx hR _ hd _ _ hs K hK=>?_) ?_
   ·have e37:=hs.v 2 37 hd;clear hs;go_simp;exact hK () wx sv hR
   refine Cs (fun D _ wx hR _ hd _ _ hs K hK=>?_) ?_
   ·have e40:=hs.v 5 40 hd;clear hs;go_simp;exact hK () wx sv hR
   exact aj.nil
  intro D _ wx hR hD;simp only[eH,Act.put,aO,aU,aW];have HB1:=af hR;clear hR hD;have c0:wx.cell? ⟨g,0,none⟩=some (.int .i64 s):=(aF HB1.out _ _ HG.out).trans C0.out;have C1':Hid (wx.cell? ⟨g,1,none⟩=some (.iface lt ld)):=af ((aF HB1.out _ _ HG.out).trans C1.out);have C2':Hid (wx.cell? ⟨g,2,none⟩=some (.iface hvt hvd)):=af ((aF HB1.out _ _ HG.out).trans C2.out);have HG':Hid (g<wx.heap.size):=af (Nat.lt_of_lt_of_le HG.out HB1.out.size);have HB:Hid (Below w.heap.size w wx):=af (by rw[hg];exact HB0.out.trans (HB1.out.mono (by have:=HG.out;omega)));clear HG C1 C2 C0 HB0 HB1;obtain⟨wc,rfl⟩:∃x,x=wx:=⟨_,rfl⟩
  rcases Zv.out with h8 | h9
  ·subst h8
   go_upto_region 13 with(fail)
   obtain⟨bl,hbl⟩:∃x,(ll == 9)=x:=⟨_,rfl⟩
   by_cases hn:hl=9
   ·subst hn
    have hT:(Cond.join 8 l h).text 0=partT l bl++38::partT h true:=by
     rw[HTX.out];simp only[if_true];rw[oh HKL.out 2 (by omega) bl (by rw[br2 HKL.out BR.out];exact hbl.symm),oh HKH.out 3 (by omega) true (by rw[br3 HKH.out HQH.out];rfl)]
    obtain⟨SL,CV⟩:∃x:ByteArray,(⟨(partT l bl).toArray⟩:ByteArray)=x:=⟨_,rfl⟩;obtain⟨SH,QV⟩:∃x:ByteArray,(⟨(partT h true).toArray⟩:ByteArray)=x:=⟨_,rfl⟩;have hz1:SL.size≤1000:=by rw[←CV,Lib.size_eq];exact HNL.out bl
    have hz2:SH.size≤1000:=by rw[←QV,Lib.size_eq];exact HNH.out true
    have HT:=af (show SL++⟨#[38]⟩++SH=⟨((Cond.join _ l h).text 0).toArray⟩ by rw[hT,←CV,←QV,ba3]);have bf:=af (show¬9223372036854775807<SL.size+1 by omega);have HS2:=af (show¬9223372036854775807<SL.size+1+SH.size by omega);have KZ:=Bx.mk CV;have Rz:=Bx.mk QV;have YG:=Bx.mk hbl;clear hbl hT CV QV hz1 hz2 c0
    refine kG (σ:=Unit)
     (fun _ i=>match i with
     |0=>.pointer (some ⟨g,1,none⟩)
     |1=>.iface lt ld
     |2=>.int .i64 ll
     |3=>.bool bl
     |4=>.string SL
     |5=>.string (SL++⟨#[38]⟩)
     |6=>.pointer (some ⟨g,2,none⟩)
     |7=>.iface hvt hvd
     |8=>.int .i64 9
     |9=>.bool true
     |10=>.bool true
     |13=>.bool true
     |14=>.string SH
     |15=>.string (SL++⟨#[38]⟩++SH)
     |16=>.string (SL++⟨#[38]⟩++SH)
     |_=>undef)
     (fun D _ wx=>Below wc.heap.size wc wx) () (fun D hD=>(ai _ _).drew) ?_ ?_
    ·refine Cs (fun D _ wx hR _ hd _ _ hs K hK=>?_) ?_
     ·have e6:=hs.o 6 (.pointer (some ⟨g,0,none⟩));clear hs;go_simp;exact hK () wx sv hR
     refine Cs (fun D _ wx hR _ hd _ _ hs K hK=>?_) ?_
     ·have e44:=hs.v 0 44 hd;clear hs;have c0:wx.cell? ⟨g,1,none⟩=some (.iface lt ld):=(aF hR _ _ HG'.out).trans C1'.out;go_simp;exact hK () wx sv hR
     refine Cs (fun D _ wx hR _ hd _ _ hs K hK=>?_) ?_
     ·have e7:=hs.o 7 (.int .i64 ll);clear hs;go_simp;exact hK () wx sv hR
     refine Cs (fun D _ wx hR _ hd _ _ hs K hK=>?_) ?_
     ·have e46:=hs.v 2 46 hd;clear hs;have q1:=YG.out;go_simp;exact hK () wx sv hR
     refine Cs (fun D _ wx hR _ hd _ _ hs K hK=>?_) ?_
     ·have e45:=hs.v 1 45 hd;have e47:=hs.v 3 47 hd;have g45:=aX e45;have g47:=aX e47;clear hs;go_simp;refine(BO.out bl wx).mono ?_;rw[KZ.out];rintro e2 w2 ⟨rfl,hb2⟩;exact hK () w2 sv (hR.trans (hb2.mono hR.size))
     refine Cs (fun D _ wx hR _ hd _ _ hs K hK=>?_) ?_
     ·have e48:=hs.v 4 48 hd;clear hs;have q1:=bf.out;go_simp;exact hK () wx sv hR
     refine Cs (fun D _ wx hR _ hd _ _ hs K hK=>?_) ?_
     ·have e6:=hs.o 6 (.pointer (some ⟨g,0,none⟩));clear hs;go_simp;exact hK () wx sv hR
     refine Cs (fun D _ wx hR _ hd _ _ hs K hK=>?_) ?_
     ·have e50:=hs.v 6 50 hd;clear hs;have c0:wx.cell? ⟨g,2,none⟩=some (.iface hvt hvd):=(aF hR _ _ HG'.out).trans C2'.out;go_simp;exact hK () wx sv hR
     refine Cs (fun D _ wx hR _ hd _ _ hs K hK=>?_) ?_
     ·have e8:=hs.o 8 (.int .i64 9);clear hs;go_simp;exact hK () wx sv hR
     refine Cs (fun D _ wx hR _ hd _ _ hs K hK=>?_) ?_
     ·have e52:=hs.v 8 52 hd;clear hs;go_simp;exact hK () wx sv hR
     refine Cs (fun D _ wx hR _ hd _ _ hs K hK=>?_) ?_
     ·have e53:=hs.v 9 53 hd;clear hs;go_simp;exact hK () wx sv hR
     refine aj.skip 10 54 true ?_;refine aj.skip 10 54 true ?_;refine Cs (fun D _ wx hR _ hd _ _ hs K hK=>?_) ?_
     ·have e54:=hs.v 10 54 hd;have e56:=hs.v 12 56 hd;clear hs;go_simp;exact hK () wx sv hR
     refine Cs (fun D _ wx hR _ hd _ _ hs K hK=>?_) ?_
     ·have e51:=hs.v 7 51 hd;have e57:=hs.v 13 57 hd;have g51:=aX e51;have g57:=aX e57;clear hs;go_simp;refine(HPH.out true wx).mono ?_;rw[Rz.out];rintro e2 w2 ⟨rfl,hb2⟩;exact hK () w2 sv (hR.trans (hb2.mono hR.size))
     refine Cs (fun D _ wx hR _ hd _ _ hs K hK=>?_) ?_
     ·have e49:=hs.v 5 49 hd;have e58:=hs.v 14 58 hd;clear hs;have q1:=HS2.out;go_simp;exact hK () wx sv hR
     refine Cs (fun D _ wx hR _ hd _ _ hs K hK=>?_) ?_
     ·have e59:=hs.v 15 59 hd;clear hs;go_simp;exact hK () wx sv hR
     exact aj.nil
    intro D _ wx hR hD;simp only[eH,Act.put,aO,aU,aW];have HB2:=af (HB.out.trans (hR.mono HB.out.size));clear hR hD;go_wp2;go_ret;exact⟨dK HT.out,by rw[←hg];exact HB2.out⟩
   ·have hn':(hl == 9)=false:=beq_false_of_ne hn;obtain⟨bh,hbh⟩:∃x,(hl == 8)=x:=⟨_,rfl⟩
    have hT:(Cond.join 8 l h).text 0=partT l bl++38::partT h bh:=by
     rw[HTX.out];simp only[if_true];rw[oh HKL.out 2 (by omega) bl (by rw[br2 HKL.out BR.out];exact hbl.symm),oh HKH.out 3 (by omega) bh (by rw[br3 HKH.out HQH.out,hn',hbh];rfl)]
    obtain⟨SL,CV⟩:∃x:ByteArray,(⟨(partT l bl).toArray⟩:ByteArray)=x:=⟨_,rfl⟩;obtain⟨SH,QV⟩:∃x:ByteArray,(⟨(partT h bh).toArray⟩:ByteArray)=x:=⟨_,rfl⟩;have hz1:SL.size≤1000:=by rw[←CV,Lib.size_eq];exact HNL.out bl
    have hz2:SH.size≤1000:=by rw[←QV,Lib.size_eq];exact HNH.out bh
    have HT:=af (show SL++⟨#[38]⟩++SH=⟨((Cond.join _ l h).text 0).toArray⟩ by rw[hT,←CV,←QV,ba3]);have bf:=af (show¬9223372036854775807<SL.size+1 by omega);have HS2:=af (show¬9223372036854775807<SL.size+1+SH.size by omega);have KZ:=Bx.mk CV;have Rz:=Bx.mk QV;have YG:=Bx.mk hbl;have HBH:=Bx.mk hbh;have HN9:=Bx.mk hn';clear hbl hbh hn hn' hT CV QV hz1 hz2 c0
    refine kG (σ:=Unit)
     (fun _ i=>match i with
     |0=>.pointer (some ⟨g,1,none⟩)
     |1=>.iface lt ld
     |2=>.int .i64 ll
     |3=>.bool bl
     |4=>.string SL
     |5=>.string (SL++⟨#[38]⟩)
     |6=>.pointer (some ⟨g,2,none⟩)
     |7=>.iface hvt hvd
     |8=>.int .i64 hl
     |9=>.bool false
     |10=>.bool false
     |11=>.int .i64 hl
     |12=>.bool bh
     |13=>.bool bh
     |14=>.string SH
     |15=>.string (SL++⟨#[38]⟩++SH)
     |16=>.string (SL++⟨#[38]⟩++SH)
     |_=>undef)
     (fun D _ wx=>Below wc.heap.size wc wx) () (fun D hD=>(ai _ _).drew) ?_ ?_
    ·refine Cs (fun D _ wx hR _ hd _ _ hs K hK=>?_) ?_
     ·have e6:=hs.o 6 (.pointer (some ⟨g,0,none⟩));clear hs;go_simp;exact hK () wx sv hR
     refine Cs (fun D _ wx hR _ hd _ _ hs K hK=>?_) ?_
     ·have e44:=hs.v 0 44 hd;clear hs;have c0:wx.cell? ⟨g,1,none⟩=some (.iface lt ld):=(aF hR _ _ HG'.out).trans C1'.out;go_simp;exact hK () wx sv hR
     refine Cs (fun D _ wx hR _ hd _ _ hs K hK=>?_) ?_
     ·have e7:=hs.o 7 (.int .i64 ll);clear hs;go_simp;exact hK () wx sv hR
     refine Cs (fun D _ wx hR _ hd _ _ hs K hK=>?_) ?_
     ·have e46:=hs.v 2 46 hd;clear hs;have q1:=YG.out;go_simp;exact hK () wx sv hR
     refine Cs (fun D _ wx hR _ hd _ _ hs K hK=>?_) ?_
     ·have e45:=hs.v 1 45 hd;have e47:=hs.v 3 47 hd;have g45:=aX e45;have g47:=aX e47;clear hs;go_simp;refine(BO.out bl wx).mono ?_;rw[KZ.out];rintro e2 w2 ⟨rfl,hb2⟩;exact hK () w2 sv (hR.trans (hb2.mono hR.size))
     refine Cs (fun D _ wx hR _ hd _ _ hs K hK=>?_) ?_
     ·have e48:=hs.v 4 48 hd;clear hs;have q1:=bf.out;go_simp;exact hK () wx sv hR
     refine Cs (fun D _ wx hR _ hd _ _ hs K hK=>?_) ?_
     ·have e6:=hs.o 6 (.pointer (some ⟨g,0,none⟩));clear hs;go_simp;exact hK () wx sv hR
     refine Cs (fun D _ wx hR _ hd _ _ hs K hK=>?_) ?_
     ·have e50:=hs.v 6 50 hd;clear hs;have c0:wx.cell? ⟨g,2,none⟩=some (.iface hvt hvd):=(aF hR _ _ HG'.out).trans C2'.out;go_simp;exact hK () wx sv hR
     refine Cs (fun D _ wx hR _ hd _ _ hs K hK=>?_) ?_
     ·have e8:=hs.o 8 (.int .i64 hl);clear hs;go_simp;exact hK () wx sv hR
     refine Cs (fun D _ wx hR _ hd _ _ hs K hK=>?_) ?_
     ·have e52:=hs.v 8 52 hd;clear hs;have q1:=HN9.out;go_simp;exact hK () wx sv hR
     refine Cs (fun D _ wx hR _ hd _ _ hs K hK=>?_) ?_
     ·have e53:=hs.v 9 53 hd;clear hs;go_simp;exact hK () wx sv hR
     refine dJ (fun D _ wx hR _ hd _ _ hs K hK=>?_) ?_
     ·refine hs.yes 10 54 false hd ?_;have e8:=hs.o 8 (.int .i64 hl);clear hs;go_simp;exact hK () wx sv hR
     refine dJ (fun D _ wx hR _ hd _ _ hs K hK=>?_) ?_
     ·refine hs.yes 10 54 false hd ?_;have e55:=hs.v 11 55 hd;clear hs;have q1:=HBH.out;go_simp;exact hK () wx sv hR
     refine Cs (fun D _ wx hR _ hd _ _ hs K hK=>?_) ?_
     ·have e54:=hs.v 10 54 hd;have e56:=hs.v 12 56 hd;clear hs;go_simp;exact hK () wx sv hR
     refine Cs (fun D _ wx hR _ hd _ _ hs K hK=>?_) ?_
     ·have e51:=hs.v 7 51 hd;have e57:=hs.v 13 57 hd;have g51:=aX e51;have g57:=aX e57;clear hs;go_simp;refine(HPH.out bh wx).mono ?_;rw[Rz.out];rintro e2 w2 ⟨rfl,hb2⟩;exact hK () w2 sv (hR.trans (hb2.mono hR.size))
     refine Cs (fun D _ wx hR _ hd _ _ hs K hK=>?_) ?_
     ·have e49:=hs.v 5 49 hd;have e58:=hs.v 14 58 hd;clear hs;have q1:=HS2.out;go_simp;exact hK () wx sv hR
     refine Cs (fun D _ wx hR _ hd _ _ hs K hK=>?_) ?_
     ·have e59:=hs.v 15 59 hd;clear hs;go_simp;exact hK () wx sv hR
     exact aj.nil
    intro D _ wx hR hD;simp only[eH,Act.put,aO,aU,aW];have HB2:=af (HB.out.trans (hR.mono HB.out.size));clear hR hD;go_wp2;go_ret;exact⟨dK HT.out,by rw[←hg];exact HB2.out⟩
  ·subst h9
   go_upto_region 14 with(fail)
   obtain⟨bh,hbh⟩:∃x,(hl == 9)=x:=⟨_,rfl⟩
   have hT:(Cond.join 9 l h).text 0=partT l false++124::partT h bh:=by
    rw[HTX.out];rw[if_neg (by decide),if_neg (by decide)];rw[oh HKL.out 1 (by omega) false (br1 HKL.out).symm,oh HKH.out 2 (by omega) bh (by rw[br2 HKH.out HQH.out];exact hbh.symm)]
   obtain⟨SL,CV⟩:∃x:ByteArray,(⟨(partT l false).toArray⟩:ByteArray)=x:=⟨_,rfl⟩;obtain⟨SH,QV⟩:∃x:ByteArray,(⟨(partT h bh).toArray⟩:ByteArray)=x:=⟨_,rfl⟩;have hz1:SL.size≤1000:=by rw[←CV,Lib.size_eq];exact HNL.out false
   have hz2:SH.size≤1000:=by rw[←QV,Lib.size_eq];exact HNH.out bh
   have HT:=af (show SL++⟨#[124]⟩++SH=⟨((Cond.join _ l h).text 0).toArray⟩ by rw[hT,←CV,←QV,ba3]);have bf:=af (show¬9223372036854775807<SL.size+1 by omega);have HS2:=af (show¬9223372036854775807<SL.size+1+SH.size by omega);have KZ:=Bx.mk CV;have Rz:=Bx.mk QV;have HBH:=Bx.mk hbh;clear hbh hT CV QV hz1 hz2 c0
   refine kG (σ:=Unit)
    (fun _ i=>match i with
    |0=>.pointer (some ⟨g,1,none⟩)
    |1=>.iface lt ld
    |2=>.string SL
    |3=>.string (SL++⟨#[124]⟩)
    |4=>.pointer (some ⟨g,2,none⟩)
    |5=>.iface hvt hvd
    |6=>.int .i64 hl
    |7=>.bool bh
    |8=>.string SH
    |9=>.string (SL++⟨#[124]⟩++SH)
    |10=>.string (SL++⟨#[124]⟩++SH)
    |_=>undef)
    (fun D _ wx=>Below wc.heap.size wc wx) () (fun D hD=>(ai _ _).drew) ?_ ?_
   ·refine Cs (fun D _ wx hR _ hd _ _ hs K hK=>?_) ?_
    ·have e6:=hs.o 6 (.pointer (some ⟨g,0,none⟩));clear hs;go_simp;exact hK () wx sv hR
    refine Cs (fun D _ wx hR _ hd _ _ hs K hK=>?_) ?_
    ·have e60:=hs.v 0 60 hd;clear hs;have c0:wx.cell? ⟨g,1,none⟩=some (.iface lt ld):=(aF hR _ _ HG'.out).trans C1'.out;go_simp;exact hK () wx sv hR
    refine Cs (fun D _ wx hR _ hd _ _ hs K hK=>?_) ?_
    ·have e61:=hs.v 1 61 hd;have g61:=aX e61;clear hs;go_simp;refine(BO.out false wx).mono ?_;rw[KZ.out];rintro e2 w2 ⟨rfl,hb2⟩;exact hK () w2 sv (hR.trans (hb2.mono hR.size))
    refine Cs (fun D _ wx hR _ hd _ _ hs K hK=>?_) ?_
    ·have e62:=hs.v 2 62 hd;clear hs;have q1:=bf.out;go_simp;exact hK () wx sv hR
    refine Cs (fun D _ wx hR _ hd _ _ hs K hK=>?_) ?_
    ·have e6:=hs.o 6 (.pointer (some ⟨g,0,none⟩));clear hs;go_simp;exact hK () wx sv hR
    refine Cs (fun D _ wx hR _ hd _ _ hs K hK=>?_) ?_
    ·have e64:=hs.v 4 64 hd;clear hs;have c0:wx.cell? ⟨g,2,none⟩=some (.iface hvt hvd):=(aF hR _ _ HG'.out).trans C2'.out;go_simp;exact hK () wx sv hR
    refine Cs (fun D _ wx hR _ hd _ _ hs K hK=>?_) ?_
    ·have e8:=hs.o 8 (.int .i64 hl);clear hs;go_simp;exact hK () wx sv hR
    refine Cs (fun D _ wx hR _ hd _ _ hs K hK=>?_) ?_
    ·have YD:=hs.v 6 66 hd;clear hs;have q1:=HBH.out;go_simp;exact hK () wx sv hR
    refine Cs (fun D _ wx hR _ hd _ _ hs K hK=>?_) ?_
    ·have e65:=hs.v 5 65 hd;have Qd:=hs.v 7 67 hd;have g65:=aX e65;have g67:=aX Qd;clear hs;go_simp;refine(HPH.out bh wx).mono ?_;rw[Rz.out];rintro e2 w2 ⟨rfl,hb2⟩;exact hK () w2 sv (hR.trans (hb2.mono hR.size))
    refine Cs (fun D _ wx hR _ hd _ _ hs K hK=>?_) ?_
    ·have e63:=hs.v 3 63 hd;have UC:=hs.v 8 68 hd;clear hs;have q1:=HS2.out;go_simp;exact hK () wx sv hR
    refine Cs (fun D _ wx hR _ hd _ _ hs K hK=>?_) ?_
    ·have e69:=hs.v 9 69 hd;clear hs;go_simp;exact hK () wx sv hR
    exact aj.nil
   intro D _ wx hR hD;simp only[eH,Act.put,aO,aU,aW];have HB2:=af (HB.out.trans (hR.mono HB.out.size));clear hR hD;go_wp2;go_ret;exact⟨dK HT.out,by rw[←hg];exact HB2.out⟩
theorem aa3:qE Tryz.prog 209 185 .nilIface 1 16:=⟨Tryz.underlying209,info_parts (by kernel_rfl),rfl,by omega⟩
def conds (st:List Cond):List Value:=st.reverse.map Cond.val
theorem nZ (a:Cond) (r:List Cond):conds (a::r)=conds r++[a.val]:=by simp[conds]
theorem mF (st:List Cond):(conds st).length=st.length:=by simp[conds]
theorem Az (a:Cond) (r:List Cond):(conds (a::r))[r.length]? =some a.val:=by
 rw[nZ,List.getElem?_append_right (by rw[mF];omega),mF];simp
theorem Il (a v:Cond) (r:List Cond):(conds (a::r)).set r.length v.val=conds (v::r):=by
 rw[nZ,nZ,List.set_append_right _ _ (by rw[mF];omega),mF];simp
theorem TT (a b2 v:Cond) (r:List Cond):((conds (a::b2::r)).set r.length v.val).take ((r.length+1)*1)=conds (v::r):=by
 rw[nZ a,List.set_append_left _ _ (by rw[mF];simp),Il,Nat.mul_one,List.take_append_of_le_length (by rw[mF];simp),gW (by rw[mF];simp)]
theorem JK {st:List Cond} {x:Int} {d':Nat} (h:iF st.length x=some d'):(iq st x).length=d':=by
 unfold iF at h
 unfold iq
 by_cases h1:x<0∨9<x
 ·rw[if_pos h1] at h;cases h
 rw[if_neg h1] at h
 by_cases h2:x≤6
 ·rw[if_pos h2] at h ⊢;injection h
 rw[if_neg h2] at h ⊢
 by_cases h3:x=7
 ·rw[if_pos h3] at h ⊢
  match st,h with
  |p::r,h=>simpa using h
  | [],h=>simp at h
 rw[if_neg h3] at h ⊢
 match st,h with
 |b::a::r,h=>simpa using h
 | [_],h=>simp at h
 | [],h=>simp at h
theorem Ci (A:Option Addr) (n c:Nat) (xs:List Int) (w:World) (h:jd .i64 w w.heap.size A n c xs) (hok:codeOk xs=true):
  Calls Tryz.prog 192 #[.slice A n c] w fun e w'=>e= .returned (l7 xs).val∧Below w.heap.size w w':=by
 have hl:=h.len;obtain⟨hn1,hn2,hfin⟩:=(jg xs).1 hok;rw[hl] at hn1 hn2;have HL:=af hl;have HAT:=af (zH xs hok);have jL:=af hfin;clear hl hfin hok;go_enter Tryz.func192,Tryz.ntmps192;go_wp2
 go_loopw [9,3] (fun i v wr=>∃(k d:Nat) (st:List Cond),k≤n∧d≤k∧i= .int .i64 k∧Hid (st.length=d∧jW [] (xs.take k)=st∧jC 0 (xs.take k)=some d)∧wr.ownsRow w.heap.size 185 1 v d (conds st)∧Below w.heap.size w wr) (fun i _ _=>n-(intOf i).toNat)
 case atStart=>exact⟨0,0,[],by omega,by omega,rfl,af ⟨rfl,rfl,rfl⟩,World.ownsRow_nil w _ _ 1,ai _ _⟩
 case round=>
  obtain⟨k,d,st,hk,hd,rfl,HST,hown,hbel⟩:=hrel;have hsz:=hbel.size;obtain⟨C,cc,rfl⟩:=dR hown
  by_cases hlt:k<n
  ·obtain⟨b,off,x,rfl,hb,hx,hw,hc⟩:=h.get hlt;have hcr:wr.cell? ⟨b,off+k,none⟩=some (.int .i64 x):=(aF hbel b _ hb).trans hc;obtain⟨d0,hd0,-,hstep⟩:=HAT.out k (by rw[HL.out];exact hk);obtain⟨d',hd'⟩:=hstep x hx
   have hdd:d0=d:=by
    have:=hd0.symm.trans HST.out.2.2
    injection this
   rw[hdd] at hd';have zA:Hid ((iq st x).length=d'∧jW [] (xs.take (k+1))=iq st x∧jC 0 (xs.take (k+1))=some d'):=af ⟨JK (by rw[HST.out.1];exact hd'),by rw[JG xs k x hx,HST.out.2.1],by have h1:=(qZ xs k x hx d HST.out.2.2).1;rw[h1];exact hd'⟩;have wF:=af hd';have hlen:=HST.out.1;clear hx hd0 hstep hd' hdd hc HST
   by_cases hlow:x≤6
   ·have hx0:0≤x:=by
     rcases Int.lt_or_le x 0 with h | h
     ·have:=wF.out;rw[kT d x (.inl h)] at this;cases this
     ·exact h
    have HD2:Hid (d'=d+1):=af (by have:=wF.out;rw[kJ d x hx0 hlow] at this;injection this with this;exact this.symm);have ZH:Hid (iq st x= .one x::st):=af (by unfold iq;rw[if_pos hlow]);have e7:(x == 7)=false:=beq_false_of_ne (by omega);have e8:(x == 8)=false:=beq_false_of_ne (by omega);have e9:(x == 9)=false:=beq_false_of_ne (by omega);clear hlen hlow hx0
    go_wp2_with (at_builtin;refine cZ aa3 rfl _ _ rfl w.heap.size _ d _ rfl (hown.alloc _) _ _ 1 1 [.iface 202 (.agg #[.int .i64 x])] rfl (bJ.new wr [.iface 202 (.agg #[.int .i64 x])] 185 1 1 rfl (by unfold maxLen;omega)) (by simp[Value.oneCell']) (by omega) (by omega) (by simp;omega) ?_;intro v5 w5 hown5 hg5 Fp)
    have hb5:Below w.heap.size w w5:=(hbel.alloc hsz _).grown hg5 (by simp;omega) (fun k hk=>by have:=(hown.lt k hk).1;omega);have ho5:w5.ownsRow w.heap.size 185 1 v5 (d+1) (conds (iq st x)):=by rw[ZH.out,nZ];exact hown5
    clear hown5 hg5 Fp;go_wp2
    go_roundw
    case rel=>exact⟨k+1,d+1,_,by omega,by omega,by go_num,af (by rw[←HD2.out];exact zA.out),ho5,hb5⟩
    case measure=>simp[intOf];omega
   by_cases h7:x=7
   ·subst h7
    have h1:1≤d:=by
     rcases Nat.lt_or_ge d 1 with h | h
     ·have:=wF.out;rw[pX d (by omega)] at this;cases this
     ·exact h
    have HD2:Hid (d'=d):=af (by have:=wF.out;rw[rq d h1] at this;injection this with this;exact this.symm)
    obtain⟨a,r,rfl⟩:∃a r,st=a::r:=by
     match st,hlen with
     | [],h=>simp at h;omega
     |a::r,_=>exact⟨a,r,rfl⟩
    obtain⟨q,rfl⟩:∃q,d=q+1:=⟨d-1,by omega⟩;have hrq:r.length=q:=by simpa using hlen
    subst hrq;obtain⟨g,cap,hv,hg,hcap,hcapm⟩:=mP hown (by omega);simp only[Value.slice.injEq] at hv;obtain⟨rfl,-,rfl⟩:=hv
    unfold maxLen at hcapm
    obtain⟨at_,ad,hav⟩:=a.kP;have c0:wr.cell? ⟨g,r.length,none⟩=some (.iface at_ ad):=(hown.cellAt r.length (by omega)).trans (by rw[←hav];exact Az a r);have f0:wr.frozen? ⟨g,r.length,none⟩=false:=hown.frozenAt r.length
    have HO:Hid ((wr.setCell ⟨g,r.length,none⟩ (.iface 204 (.agg #[.iface at_ ad]))).ownsRow w.heap.size 185 1 (.slice (some ⟨g,0,none⟩) (r.length+1) cc) (r.length+1) (conds (iq (a::r) 7))):=af (by
     have h1:=(hown.stored r.length (Cond.turn a).val).1;rw[Il] at h1;simp only[Cond.val,hav] at h1
     exact h1)
    clear hlen hown h1 hav hlow;go_wp2
    go_roundw
    case rel=>exact⟨k+1,r.length+1,_,by omega,by omega,by go_num,af (by have:=zA.out;rw[HD2.out] at this;exact this),HO.out,hbel.setCell hg _⟩
    case measure=>simp[intOf];omega
   have h89:x=8∨x=9:=by
    rcases Int.lt_or_le 9 x with h' | h'
    ·have:=wF.out;rw[kT d x (.inr h')] at this;cases this
    omega
   have h2:2≤d:=by
    rcases Nat.lt_or_ge d 2 with h | h
    ·have:=wF.out;rw[lU d x (by omega) (by omega) (by omega)] at this;cases this
    ·exact h
   have HD2:Hid (d'=d-1):=af (by have:=wF.out;rw[nS d x (by omega) (by omega) h2] at this;injection this with this;exact this.symm);have HCS:Hid (∀p q r,iq (p::q::r) x= .join x q p::r):=af (by intro p q r;unfold iq;rw[if_neg hlow,if_neg h7])
   obtain⟨a,b2,r,rfl⟩:∃a b2 r,st=a::b2::r:=by
    match st,hlen with
    | [],h=>simp at h;omega
    | [_],h=>simp at h;omega
    |a::b2::r,_=>exact⟨a,b2,r,rfl⟩
   obtain⟨q,rfl⟩:∃q,d=q+2:=⟨d-2,by omega⟩;have hrq:r.length=q:=by simpa using hlen
   subst hrq;obtain⟨g,cap,hv,hg,hcap,hcapm⟩:=mP hown (by omega);simp only[Value.slice.injEq] at hv;obtain⟨rfl,-,rfl⟩:=hv
   unfold maxLen at hcapm
   obtain⟨at_,ad,hav⟩:=a.kP;obtain⟨bt_,bd,hbv⟩:=b2.kP;have c1:wr.cell? ⟨g,r.length+1,none⟩=some (.iface at_ ad):=(hown.cellAt (r.length+1) (by omega)).trans (by rw[←hav];exact Az a (b2::r));have c0:wr.cell? ⟨g,r.length,none⟩=some (.iface bt_ bd):=(hown.cellAt r.length (by omega)).trans (by rw[nZ,List.getElem?_append_left (by rw[mF];simp),←hbv];exact Az b2 r);have f0:wr.frozen? ⟨g,r.length,none⟩=false:=hown.frozenAt r.length
   have HO:Hid ((wr.setCell ⟨g,r.length,none⟩ (.iface 208 (.agg #[.int .i64 x,.iface bt_ bd,.iface at_ ad]))).ownsRow w.heap.size 185 1 (.slice (some ⟨g,0,none⟩) (r.length+1) cc) (r.length+1) (conds (iq (a::b2::r) x))):=af (by
    have h1:=(hown.stored r.length (Cond.join x b2 a).val).1;have h2:=Dw (m:=r.length+1) h1 (by omega) (by omega);rw[TT] at h2;simp only[Cond.val,hav,hbv] at h2;rw[HCS.out]
    exact h2)
   clear hlen hown h2 hav hbv hlow h7 HCS
   rcases h89 with rfl | rfl
   ·go_upto_region 12 with(fail)
    go_region
    all_goals
     go_wp2
     go_roundw
     case rel=>exact⟨k+1,r.length+1,_,by omega,by omega,by go_num,af (by have:=zA.out;rw[HD2.out] at this;exact this),HO.out,(hbel.setCell (p:=⟨g,r.length,none⟩) hg _).drew⟩
     case measure=>simp[intOf];omega
   ·go_upto_region 12 with(fail)
    go_region
    all_goals
     go_wp2
     go_roundw
     case rel=>exact⟨k+1,r.length+1,_,by omega,by omega,by go_num,af (by have:=zA.out;rw[HD2.out] at this;exact this),HO.out,(hbel.setCell (p:=⟨g,r.length,none⟩) hg _).drew⟩
     case measure=>simp[intOf];omega
  ·have hkn:k=n:=by omega
   subst hkn;obtain⟨h1,h2,h3⟩:=HST.out;rw[←HL.out,List.take_length] at h2 h3;have hd1:d=1:=by have:=h3.symm.trans jL.out;injection this
   subst hd1
   obtain⟨a,rfl⟩:∃a,st=[a]:=by
    match st,h1 with
    | [a],_=>exact⟨a,rfl⟩
   have HV:Hid (l7 xs=a):=af (by unfold l7;rw[h2];rfl);obtain⟨g,cap,hv,hg,hcap,hcapm⟩:=mP hown (by omega);simp only[Value.slice.injEq] at hv;obtain⟨rfl,-,rfl⟩:=hv;obtain⟨at_,ad,hav⟩:=a.kP;have c0:wr.cell? ⟨g,0,none⟩=some (.iface at_ ad):=(hown.cellAt 0 (by omega)).trans (by rw[←hav];rfl);have HAV:=Bx.mk hav;clear h1 h2 h3 hown hav;go_wp2;go_ret;exact⟨by rw[HV.out,HAV.out];rfl,hbel⟩
theorem xg (A:Option Addr) (n c:Nat) (xs:List Int) (w:World) (h:jd .i64 w w.heap.size A n c xs):
  Calls Tryz.prog 165 #[.slice A n c] w fun e w'=>e= .returned (.string ⟨(jQ xs).toArray⟩)∧Below w.heap.size w w':=by
 cases hok:codeOk xs with
 |false=>
  have HT:Hid (jQ xs=[]):=af (by unfold jQ;rw[hok];rfl);go_enter Tryz.func165,Tryz.ntmps165
  go_wp2_with fail
  refine(dZ A n c xs _ h).mono ?_;rw[hok];rintro e w1 ⟨rfl,rfl⟩;go_wp2;go_ret;exact⟨dK (a:=⟨#[]⟩) (by rw[HT.out]),ai _ _⟩
 |true=>
  have HT:Hid (jQ xs=(l7 xs).text 0):=af (by unfold jQ;rw[hok];rfl);have HG:=af (vH hok);have HLN:Hid (xs.length≤40):=af ((jg xs).1 hok).2.1;have H:=af h;have bG:=af hok;clear h hok;go_enter Tryz.func165,Tryz.ntmps165
  go_wp2_with fail
  refine(dZ A n c xs _ H.out).mono ?_;rw[bG.out];rintro e w1 ⟨rfl,rfl⟩
  go_wp2_with fail
  refine(Ci A n c xs _ H.out bG.out).mono ?_;rintro e w2 ⟨rfl,hb2⟩;have HB2:=af hb2;clear hb2;obtain⟨ct,cd,hcv⟩:=(l7 xs).kP;have HCV:=Bx.mk hcv;rw[hcv];clear hcv
  go_wp2_with fail
  rw[←HCV.out];refine(zx _ HG.out.2.1 (by rw[HG.out.2.2];have:=HLN.out;omega) _).mono ?_;rintro e w3 ⟨rfl,hb3⟩;have HB3:=af (HB2.out.trans (hb3.mono HB2.out.size));clear hb3;go_wp2;go_ret;exact⟨dK (by rw[HT.out]),HB3.out⟩
theorem Ih {k:Nat} (h:k<5):((UInt8.ofNat (97+k)).toNat:Int)=97+(k:Int):=by
 rw[UInt8.toNat_ofNat']
 omega
theorem aaU:qE Tryz.prog 22 5 (.int .u8 0) 1 1:=⟨Tryz.underlying22,info_parts (by kernel_rfl),rfl,by omega⟩
theorem V7 {w:World} {base cap n:Nat} {A:Option Addr} {l:List UInt8} (h:w.ownsRow base 5 1 (.slice A n cap) n (Lib.byteCells l)) (hn:n=l.length) (h0:l≠[]):
  (convert 22 9 (.slice A n cap)).run Tryz.prog w= .ok (.string ⟨l.toArray⟩) w:=by
 subst hn;obtain⟨g,c,hv,-⟩:=mP h (List.length_pos_iff.2 h0);simp only[Value.slice.injEq] at hv;obtain⟨rfl,-,rfl⟩:=hv;refine run_convert_bytes_back w 22 9 5 ⟨g,0,none⟩ cap l Tryz.underlying22 Tryz.underlying5 Tryz.underlying9 fun j hj=>?_
 have h1:=h.cellAt j (by omega);have h2:(Lib.byteCells l)[j]? =some (.int .u8 (l[j].toNat:Int)):=by simp[Lib.byteCells,hj]
 rw[h2] at h1
 have e:(⟨g,0,none⟩:Addr).add j=⟨g,j,none⟩:=by
  cases j with
  |zero=>rfl
  |succ j=>simp[Addr.add]
 rw[e];exact h1
theorem iQ (n:Nat) (hn:n<32) (w:World):
  Calls Tryz.prog 113 #[.int .i64 (n:Int)] w fun e w'=>e= .returned (.string ⟨(gK n).toArray⟩)∧Below w.heap.size w w':=by
 by_cases h0:n=0
 ·subst h0;go_enter Tryz.func113,Tryz.ntmps113;go_wp2;go_ret;exact⟨rfl,ai _ _⟩
 have HT:Hid (gK n=rP n 5):=af (by unfold gK;rw[if_neg h0]);have WJ:Hid (rP n 5≠[]):=af (JE n hn h0);have h0':((n:Int) == 0)=false:=beq_false_of_ne (by omega);clear h0;go_enter Tryz.func113,Tryz.ntmps113;go_wp2;clear h0'
 go_loopw [7,3] (fun i v wr=>∃(k m:Nat),k≤5∧i= .int .i64 k∧m≤k∧Hid (m=(rP n k).length)∧wr.ownsRow w.heap.size 5 1 v m (Lib.byteCells (rP n k))∧Below w.heap.size w wr) (fun i _ _=>5-(intOf i).toNat)
 case atStart=>exact⟨0,0,by omega,rfl,by omega,af rfl,World.ownsRow_nil w _ _ 1,ai _ _⟩
 case round=>
  obtain⟨k,m,hk,rfl,hm,HM,hown,hbel⟩:=hrel;have hsz:=hbel.size;obtain⟨C,cc,rfl⟩:=dR hown
  by_cases hlt:k<5
  ·have hbit:=and_one n k (by omega)
   by_cases hb1:bit n k=1
   ·rw[hb1] at hbit;have HN:=af (MO hb1);have HL:=af (Ih hlt);clear hb1
    go_wp2_with (at_builtin;refine cZ aaU rfl _ _ rfl w.heap.size _ m _ rfl (hown.alloc _) _ _ 1 1 [.int .u8 (97+(k:Int))] rfl (bJ.new wr [.int .u8 (97+(k:Int))] 5 1 1 rfl (by unfold maxLen;omega)) (by simp[Value.oneCell']) (by omega) (by omega) (by simp;omega) ?_;intro v5 w5 hown5 hg5 Fp)
    have hb5:Below w.heap.size w w5:=(hbel.alloc hsz _).grown hg5 (by simp;omega) (fun k hk=>by have:=(hown.lt k hk).1;omega);have ho5:w5.ownsRow w.heap.size 5 1 v5 (m+1) (Lib.byteCells (rP n (k+1))):=by rw[HN.out,Lib.byteCells_append];simp only[Lib.byteCells,List.map_cons,List.map_nil,HL.out] at hown5 ⊢;exact hown5
    clear hown5 hg5 Fp;go_wp2
    go_roundw
    case rel=>exact⟨k+1,m+1,by omega,by go_num,by omega,af (by rw[HN.out,HM.out];simp),ho5,hb5⟩
    case measure=>simp[intOf];omega
   ·have hb0:bit n k=0:=by have:=jo n k;omega
    rw[hb0] at hbit;have HN:=af (QI hb0);clear hb1 hb0;go_wp2
    go_roundw
    case rel=>exact⟨k+1,m,by omega,by go_num,by omega,af (by rw[HN.out];exact HM.out),by rw[HN.out];exact hown,hbel⟩
    case measure=>simp[intOf];omega
  ·obtain rfl:k=5:=by omega
   have hcv:=V7 hown HM.out WJ.out;clear hown;go_wp2;go_ret;exact⟨dK (by rw[HT.out]),hbel⟩
theorem Cb (s:ByteArray) (w:World):
  Calls Tryz.prog 171 #[.string s] w fun e w'=>e= .returned (.tuple #[.int .i64 ((uh s.data.toList).getD 0:Nat),.bool (uh s.data.toList).isSome])∧Below w.heap.size w w':=by
 obtain⟨o,ho⟩:∃x,uh s.data.toList=x:=⟨_,rfl⟩;rw[ho];go_enter Tryz.func171,Tryz.ntmps171;go_wp2
 go_loopw [5] (fun i wr=>∃k:Nat,k≤32∧i= .int .i64 k∧Hid (∀j,j<k→gK j≠s.data.toList)∧Below w.heap.size w wr) (fun i _=>32-(intOf i).toNat)
 case atStart=>exact⟨0,by omega,rfl,af (by omega),ai _ _⟩
 case round=>
  obtain⟨k,hk,rfl,HN,hbel⟩:=hrel;have HB:=af hbel;have HO:=Bx.mk ho;clear hbel
  by_cases hlt:k<32
  ·go_wp2_with fail
   refine(iQ k hlt _).mono ?_;rintro e w1 ⟨rfl,hb⟩;have HB1:=af (HB.out.trans (hb.mono HB.out.size));clear hb;obtain⟨q,hq⟩:∃q:ByteArray,(⟨(gK k).toArray⟩:ByteArray)=q:=⟨_,rfl⟩;have WG:q.toList=gK k:=by rw[←hq,Lib.toList_data]
   rw[hq]
   by_cases he:gK k=s.data.toList
   ·have hne:(q.toList == s.toList)=true:=by rw[WG,Lib.toList_data,he];simp
    have HV:Hid (o=some k):=af (by rw[←HO.out,←he,MP k hlt]);clear he hq WG;go_wp2;exact bodyPost_ret (v:=.tuple #[.int .i64 (k:Int),.bool true]) (by simp[results,Tryz.results171,go_sem]) rfl ⟨by rw[HV.out];rfl,HB1.out⟩
   ·have hne:(q.toList == s.toList)=false:=by rw[WG,Lib.toList_data];exact beq_false_of_ne he
    have NI:Hid (∀j,j<k+1→gK j≠s.data.toList):=af fun j hj=>by
     rcases Nat.lt_or_ge j k with h | h
     ·exact HN.out j h
     ·obtain rfl:j=k:=by omega
      exact he
    clear he hq WG;go_wp2
    go_roundw
    case rel=>exact⟨k+1,by omega,by go_num,NI,HB1.out⟩
    case measure=>simp[intOf];omega
  ·have HV:Hid (o=none):=af (by
    rw[←HO.out]
    cases h:uh s.data.toList with
    |none=>rfl
    |some j=>
     obtain⟨h1,h2⟩:=rO h
     exact absurd h2 (HN.out j (by omega)))
   go_wp2;exact bodyPost_ret (v:=.tuple #[.int .i64 0,.bool false]) (by simp[results,Tryz.results171,go_sem]) rfl ⟨by rw[HV.out];rfl,HB.out⟩
theorem jF (n:Nat) (hn:n<32) (w:World):
  Calls Tryz.prog 59 #[.int .i64 (n:Int)] w fun e w'=>e= .returned (.string ⟨(gK n).toArray⟩)∧Below w.heap.size w w':=by
 have HT:Hid (n≠0→gK n=rP n 5):=af (fun h0=>by unfold gK;rw[if_neg h0]);have WJ:Hid (n≠0→rP n 5≠[]):=af (fun h0=>JE n hn h0);go_enter Tryz.func59,Tryz.ntmps59;go_wp2
 go_loopw [4,3] (fun i v wr=>∃(k:Nat) (q:ByteArray),k≤5∧i= .int .i64 k∧v= .string q∧q.size≤k∧Hid (q=⟨(rP n k).toArray⟩)∧Below w.heap.size w wr) (fun i _ _=>5-(intOf i).toNat)
 case atStart=>exact⟨0,⟨#[]⟩,by omega,rfl,rfl,by decide,af rfl,ai _ _⟩
 case round=>
  obtain⟨k,q,hk,rfl,rfl,hq,HQ,hbel⟩:=hrel;have HB:=af hbel;clear hbel
  by_cases hlt:k<5
  ·by_cases hb1:bit n k=1
   ·have HN:=af (MO hb1);have HL:=af (Ih hlt);have h1:¬9223372036854775807<q.size+1:=by omega
    go_wp2_with fail
    refine(jX n k (by omega) _).mono ?_;rw[hb1];rintro e w1 ⟨rfl,rfl⟩
    have hcv:(convert 22 9 (.slice (some ⟨wr.heap.size,0,none⟩) 1 1)).run Tryz.prog (wr.alloc (.cells #[.int .u8 (97+(k:Int))] 5))= .ok (.string ⟨[UInt8.ofNat (97+k)].toArray⟩) (wr.alloc (.cells #[.int .u8 (97+(k:Int))] 5)):=
     vg _ _ _ (by rw[HL.out];exact(fU.new wr 5 #[.int .u8 (97+(k:Int))]).cell 0)
    obtain⟨u,hu⟩:∃u,UInt8.ofNat (97+k)=u:=⟨_,rfl⟩;rw[hu] at hcv;have ZB:Hid (q++⟨[u].toArray⟩=⟨(rP n (k+1)).toArray⟩):=af (by rw[HQ.out,HN.out,iV,hu]);have HZ:Hid ((q++⟨[u].toArray⟩).size≤k+1):=af (by rw[ByteArray.size_append];have:(⟨[u].toArray⟩:ByteArray).size=1:=rfl;omega);clear hu;clear hb1;go_wp2
    go_roundw
    case rel=>exact⟨k+1,_,by omega,by go_num,rfl,HZ.out,ZB,HB.out.alloc HB.out.size _⟩
    case measure=>simp[intOf];omega
   ·have hb0:bit n k=0:=by have:=jo n k;omega
    have HN:=af (QI hb0)
    go_wp2_with fail
    refine(jX n k (by omega) _).mono ?_;rw[hb0];rintro e w1 ⟨rfl,rfl⟩;clear hb1 hb0;go_wp2
    go_roundw
    case rel=>exact⟨k+1,q,by omega,by go_num,rfl,by omega,af (by rw[HN.out];exact HQ.out),HB.out⟩
    case measure=>simp[intOf];omega
  ·obtain rfl:k=5:=by omega
   by_cases h0:n=0
   ·subst h0;have hqe:q=⟨#[]⟩:=HQ.out;subst hqe;go_wp2;go_ret;exact⟨rfl,HB.out⟩
   ·have hb:q.toList.isEmpty=false:=by
     rw[Lib.toList_data,HQ.out]
     have:=WJ.out h0
     cases h:rP n 5 with
     |nil=>exact absurd h this
     |cons x y=>rfl
    have HV:Hid (q=⟨(gK n).toArray⟩):=af (by rw[HT.out h0];exact HQ.out);clear h0;go_wp2;go_ret;exact⟨dK HV.out,HB.out⟩
def PL (s:List UInt8):Int:=match uh s with | some n=>(n:Int) | none=>-1
theorem TM (s:ByteArray) (w:World):
  Calls Tryz.prog 132 #[.string s] w fun e w'=>e= .returned (.int .i64 (PL s.data.toList))∧Below w.heap.size w w':=by
 obtain⟨o,ho⟩:∃x,PL s.data.toList=x:=⟨_,rfl⟩;rw[ho];go_enter Tryz.func132,Tryz.ntmps132;go_wp2
 go_loopw [3] (fun i wr=>∃k:Nat,k≤32∧i= .int .i64 k∧Hid (∀j,j<k→gK j≠s.data.toList)∧Below w.heap.size w wr) (fun i _=>32-(intOf i).toNat)
 case atStart=>exact⟨0,by omega,rfl,af (by omega),ai _ _⟩
 case round=>
  obtain⟨k,hk,rfl,HN,hbel⟩:=hrel;have HB:=af hbel;have HO:=Bx.mk ho;clear hbel
  by_cases hlt:k<32
  ·go_wp2_with fail
   refine(jF k hlt _).mono ?_;rintro e w1 ⟨rfl,hb⟩;have HB1:=af (HB.out.trans (hb.mono HB.out.size));clear hb;obtain⟨q,hq⟩:∃q:ByteArray,(⟨(gK k).toArray⟩:ByteArray)=q:=⟨_,rfl⟩;have WG:q.toList=gK k:=by rw[←hq,Lib.toList_data]
   rw[hq]
   by_cases he:gK k=s.data.toList
   ·have hne:(q.toList == s.toList)=true:=by rw[WG,Lib.toList_data,he];simp
    have HV:Hid (o=(k:Int)):=af (by rw[←HO.out,←he];unfold PL;rw[MP k hlt]);clear he hq WG;go_wp2;go_ret;exact⟨aP HV.out.symm,HB1.out⟩
   ·have hne:(q.toList == s.toList)=false:=by rw[WG,Lib.toList_data];exact beq_false_of_ne he
    have NI:Hid (∀j,j<k+1→gK j≠s.data.toList):=af fun j hj=>by
     rcases Nat.lt_or_ge j k with h | h
     ·exact HN.out j h
     ·obtain rfl:j=k:=by omega
      exact he
    clear he hq WG;go_wp2
    go_roundw
    case rel=>exact⟨k+1,by omega,by go_num,NI,HB1.out⟩
    case measure=>simp[intOf];omega
  ·have HV:Hid (o= -1):=af (by
    rw[←HO.out]
    unfold PL
    cases h:uh s.data.toList with
    |none=>rfl
    |some j=>
     obtain⟨h1,h2⟩:=rO h
     exact absurd h2 (HN.out j (by omega)))
   go_wp2;go_ret;exact⟨aP HV.out.symm,HB.out⟩
end Go.Proofs.YtkmcengmglgdeaaGreatDoor
