/- A part of the proof: CondT. -/
import Derived.Test.YtkmcengmglgdeaaGreatDoorSLaid
import Derived.Test.YtkmcengmglgdeaaGreatDoorSDoI
import Derived.Deep.Cut
namespace Go.Proofs.YtkmcengmglgdeaaGreatDoor
set_option linter.unusedVariables false
set_option linter.unusedSimpArgs false
set_option maxRecDepth 100000
set_option maxHeartbeats 8000000
open Go.ChangeShapes Go.WideShapes Go.ChangeAt Go.RowKit
def partT (c:Cond) (b:Bool):List UInt8:=if b=true then 40::(c.text 0++[41]) else c.text 0
theorem GV (c:Cond) (b:Bool):(partT c b).length≤5*c.steps.length+2:=by
 have:=c.nR 0
 unfold partT
 split<;>(try simp only[bM,bK,List.length_nil])<;>omega
theorem oH {c:Cond} (h:c.Ok):c.mine=if c.last=8 then 2 else if c.last=9 then 1 else 3:=by
 cases c with
 |one s=>
  obtain⟨h1,h2⟩:0≤s∧s≤6:=h
  show(3:Nat)=if s=8 then 2 else if s=9 then 1 else 3
  rw[if_neg (by omega),if_neg (by omega)]
 |turn p=>rfl
 |join s l r=>
  rcases h.1 with rfl | rfl<;>rfl
theorem nG {c:Cond} (h:c.Ok) (k:Nat) (hk:k≤3) (b:Bool) (hb:b=decide (c.mine<k)):c.text k=partT c b:=by
 rw[c.EY k hk];subst hb
 unfold partT
 by_cases h1:c.mine<k
 ·rw[if_pos h1,decide_eq_true h1,if_pos rfl]
 ·rw[if_neg h1,decide_eq_false h1,if_neg (by simp)]
theorem br2 {c:Cond} (h:c.Ok) {x:Int} (hx:c.last=x):decide (c.mine<2)=(x == 9):=by
 rw[oH h,hx]
 by_cases h8:x=8
 ·subst h8;rfl
 ·by_cases h9:x=9
  ·subst h9;rfl
  ·rw[if_neg h8,if_neg h9,beq_false_of_ne h9];rfl
theorem br3 {c:Cond} (h:c.Ok) {x:Int} (hx:c.last=x):decide (c.mine<3)=(x == 9||x == 8):=by
 rw[oH h,hx]
 by_cases h8:x=8
 ·subst h8;rfl
 ·by_cases h9:x=9
  ·subst h9;rfl
  ·rw[if_neg h8,if_neg h9,beq_false_of_ne h9,beq_false_of_ne h8];rfl
theorem br1 {c:Cond} (h:c.Ok):decide (c.mine<1)=false:=by
 rw[oH h]
 by_cases h8:c.last=8
 ·rw[if_pos h8];rfl
 ·by_cases h9:c.last=9
  ·rw[if_neg h8,if_pos h9];rfl
  ·rw[if_neg h8,if_neg h9];rfl
theorem mP (c:Cond) (b:Bool) {w:World} (ih:Calls Tryz.prog 191 #[c.val] w fun e w'=>e= .returned (.string ⟨(c.text 0).toArray⟩)∧Below w.heap.size w w') (hl:(c.text 0).length≤1000):
  Calls Tryz.prog 211 #[c.val,.bool b] w fun e w'=>e= .returned (.string ⟨(partT c b).toArray⟩)∧Below w.heap.size w w':=by
 obtain⟨T,hT⟩:∃x,c.text 0=x:=⟨_,rfl⟩;have h1:¬9223372036854775807<1+T.length:=by rw[←hT];omega
 have h2:¬9223372036854775807<1+T.length+1:=by rw[←hT];omega
 obtain⟨cv,hcv⟩:∃x,c.val=x:=⟨_,rfl⟩;have HP:=Bx.mk (show∀b,partT c b=if b=true then 40::(T++[41]) else T by intro b;unfold partT;rw[hT]);rw[hT,hcv] at ih;rw[hcv];have IH:=af ih;clear ih hl hT hcv
 cases b with
 |true=>
  go_enter Tryz.func211,Tryz.ntmps211
  go_wp2_with fail
  refine IH.out.mono ?_;rintro e w1 ⟨rfl,hb⟩;have HB:=af hb;clear hb;go_wp2;go_ret;exact⟨dh (by rw[HP.out,if_pos rfl,show(⟨#[40]⟩:ByteArray)=⟨[40].toArray⟩ from rfl,show(⟨#[41]⟩:ByteArray)=⟨[41].toArray⟩ from rfl,iw,iw];simp),HB.out⟩
 |false=>
  go_enter Tryz.func211,Tryz.ntmps211
  go_wp2_with fail
  refine IH.out.mono ?_;rintro e w1 ⟨rfl,hb⟩;have HB:=af hb;clear hb;go_wp2;go_ret;exact⟨dh (by rw[HP.out,if_neg (by simp)]),HB.out⟩
theorem Sj (s:Int) (l r:Cond):(Cond.join s l r).text 0=l.text (if s=8 then 2 else 1)++(if s=8 then 38 else 124)::r.text ((if s=8 then 2 else 1)+1):=by
 simp only[Cond.text,Nat.not_lt_zero,if_false]
theorem ba3 (a b:List UInt8) (x:UInt8):(⟨a.toArray⟩++⟨#[x]⟩++⟨b.toArray⟩:ByteArray)=⟨(a++x::b).toArray⟩:=by
 rw[show(⟨#[x]⟩:ByteArray)=⟨[x].toArray⟩ from rfl,iw,iw];simp
theorem yG (c:Cond):c.Ok→c.steps.length≤150→∀w:World,
  Calls Tryz.prog 191 #[c.val] w fun e w'=>e= .returned (.string ⟨(c.text 0).toArray⟩)∧Below w.heap.size w w':=by
 induction c with
 |one s=>
  intro hok hl w;have HS:=Bx.mk hok;clear hl hok;simp only[Cond.val];have HB0:Hid (Below w.heap.size w (w.alloc (.cells #[.int .i64 s] 202))):=af ((ai _ _).alloc (ay _) _);have a1:=Ef;go_enter Tryz.func191,Tryz.ntmps191
  go_wp2_with fail
  refine(Eg s HS.out.1 HS.out.2 _).mono ?_;rintro e w1 ⟨rfl,hb⟩;have HB:=af (HB0.out.trans (hb.mono HB0.out.size));clear hb HB0;go_wp2;go_ret;exact⟨rfl,HB.out⟩
 |turn p ih=>
  intro hok hl w;have HIH:=Bx.mk (ih hok (by simp only[Cond.steps,bK,bM,List.length_nil] at hl;omega));have HTP:=Bx.mk (show(p.text 0).length≤1000 by have:=p.nR 0;simp only[Cond.steps,bK,bM,List.length_nil] at hl;omega);obtain⟨lp,hlp⟩:∃x,p.last=x:=⟨_,rfl⟩;have bC:=Bx.mk (show p.Ok from hok);have HLP:=Bx.mk hlp;simp only[Cond.val];obtain⟨pt,pd,hpv⟩:=p.kz;rw[hpv];have YH:=Bx.mk hpv;have HB0:Hid (Below w.heap.size w (w.alloc (.cells #[.iface pt pd] 204))):=af ((ai _ _).alloc (ay _) _);have YG:Hid ((w.alloc (.cells #[.iface pt pd] 204)).cell? ⟨w.heap.size,0,none⟩=some (.iface pt pd)):=af ((iJ.new w 204 #[.iface pt pd]).cell 0);have HG0:Hid (w.heap.size<(w.alloc (.cells #[.iface pt pd] 204)).heap.size):=af (by simp);clear hl hok ih hlp hpv;have a1:=Az;have a2:=Jf;go_enter Tryz.func191,Tryz.ntmps191
  go_wp2_with fail
  rw[←YH.out];refine(sF p _).mono ?_;rw[YH.out,HLP.out];rintro e w1 ⟨rfl,hb⟩;have c1:w1.cell? ⟨w.heap.size,0,none⟩=some (.iface pt pd):=(aC hb _ _ HG0.out).trans YG.out;have HB:=af (HB0.out.trans (hb.mono HB0.out.size));clear hb HB0 YG HG0;obtain⟨b,hb⟩:∃x,decide (p.mine<3)=x:=⟨_,rfl⟩;have HT:Hid ((Cond.turn p).text 0=33::partT p b):=af (by show 33::p.text 3=_;rw[nG bC.out 3 (by omega) b hb.symm]);rw[oH bC.out,HLP.out] at hb;have HL:Hid ((partT p b).length≤1002):=af (by unfold partT;have:=HTP.out;split<;>(try simp only[bM,bK,List.length_nil])<;>omega);obtain⟨S,hS⟩:∃x,partT p b=x:=⟨_,rfl⟩;rw[hS] at HT HL;have HS:=Bx.mk hS;have h1:¬9223372036854775807<1+S.length:=by have:=HL.out;omega
  clear hS
  by_cases h8:lp=8
  ·subst h8;obtain rfl:b=true:=by rw[←hb];rfl
   clear hb
   go_wp2_with fail
   rw[←YH.out];refine(mP p true (HIH.out _) HTP.out).mono ?_;rw[YH.out,HS.out];rintro e w2 ⟨rfl,hb2⟩;have HB2:=af (HB.out.trans (hb2.mono HB.out.size));clear hb2;go_wp2;go_ret;exact⟨dh (by rw[HT.out,show(⟨#[33]⟩:ByteArray)=⟨[33].toArray⟩ from rfl,iw];rfl),HB2.out⟩
  ·by_cases h9:lp=9
   ·subst h9;obtain rfl:b=true:=by rw[←hb];rfl
    clear hb
    go_wp2_with fail
    rw[←YH.out];refine(mP p true (HIH.out _) HTP.out).mono ?_;rw[YH.out,HS.out];rintro e w2 ⟨rfl,hb2⟩;have HB2:=af (HB.out.trans (hb2.mono HB.out.size));clear hb2;go_wp2;go_ret;exact⟨dh (by rw[HT.out,show(⟨#[33]⟩:ByteArray)=⟨[33].toArray⟩ from rfl,iw];rfl),HB2.out⟩
   ·obtain rfl:b=false:=by rw[←hb,if_neg h8,if_neg h9];rfl
    have e8:(lp == 8)=false:=by simpa using h8
    have e9:(lp == 9)=false:=by simpa using h9
    clear hb h8 h9
    go_wp2_with fail
    rw[←YH.out];refine(mP p false (HIH.out _) HTP.out).mono ?_;rw[YH.out,HS.out];rintro e w2 ⟨rfl,hb2⟩;have HB2:=af (HB.out.trans (hb2.mono HB.out.size));clear hb2;go_wp2;go_ret;exact⟨dh (by rw[HT.out,show(⟨#[33]⟩:ByteArray)=⟨[33].toArray⟩ from rfl,iw];rfl),HB2.out⟩
 |join s l h ihl ZW=>
  intro hok hlen w;obtain⟨hs,OJ,XB⟩:=hok;simp only[Cond.steps,bK,bM,List.length_nil] at hlen;have ihl:=ihl OJ (by omega);have ZW:=ZW XB (by omega);have ND:=Bx.mk (show(l.text 0).length≤1000 by have:=l.nR 0;omega);have HTH:=Bx.mk (show(h.text 0).length≤1000 by have:=h.nR 0;omega);have HOL:=Bx.mk (oH OJ);have HOH:=Bx.mk (oH XB);have HKL:=Bx.mk OJ;have HKH:=Bx.mk XB;have HTX:=Bx.mk (Sj s l h);have IHL:=af ihl;have IHH:=af ZW;have YA:=Bx.mk hs;obtain⟨ll,hll⟩:∃x,l.last=x:=⟨_,rfl⟩;obtain⟨hl,hhl⟩:∃x,h.last=x:=⟨_,rfl⟩;have Tm:=Bx.mk (show∀w:World,Calls Tryz.prog 210 #[l.val] w fun e w'=>e= .returned (.int .i64 ll)∧Below w.heap.size w w' by intro w;rw[←hll];exact sF l w);have HHL:=Bx.mk (show∀w:World,Calls Tryz.prog 210 #[h.val] w fun e w'=>e= .returned (.int .i64 hl)∧Below w.heap.size w w' by intro w;rw[←hhl];exact sF h w);have AY:=Bx.mk hll;have HQH:=Bx.mk hhl;have AU:=Bx.mk (show∀b (w:World),Calls Tryz.prog 211 #[l.val,.bool b] w fun e w'=>e= .returned (.string ⟨(partT l b).toArray⟩)∧Below w.heap.size w w' from fun b w=>mP l b (ihl w) ND.out);have HPH:=Bx.mk (show∀b (w:World),Calls Tryz.prog 211 #[h.val,.bool b] w fun e w'=>e= .returned (.string ⟨(partT h b).toArray⟩)∧Below w.heap.size w w' from fun b w=>mP h b (ZW w) HTH.out);have TL:=Bx.mk (show∀b,(partT l b).length≤1000 by intro b;have:=GV l b;omega);have HNH:=Bx.mk (show∀b,(partT h b).length≤1000 by intro b;have:=GV h b;omega);simp only[Cond.val];obtain⟨lt,ld,hlv⟩:=l.kz;obtain⟨hvt,hvd,hhv⟩:=h.kz;rw[hlv] at Tm AU ⊢
  rw[hhv] at HHL HPH ⊢
  have HB0:Hid (Below w.heap.size w (w.alloc (.cells #[.int .i64 s,(.iface lt ld),(.iface hvt hvd)] 208))):=af ((ai _ _).alloc (ay _) _);have K:=iJ.new w 208 #[.int .i64 s,(.iface lt ld),(.iface hvt hvd)];have C0:=af (K.cell 0);have C1:=af (K.cell 1);have C2:=af (K.cell 2);have HG:Hid (w.heap.size<(w.alloc (.cells #[.int .i64 s,(.iface lt ld),(.iface hvt hvd)] 208)).heap.size):=af (by simp);clear K hlen hs OJ XB ihl ZW hll hhl hlv hhv;have a1:=AA;have a2:=Jg;have a3:=yH;go_enter Tryz.func191,Tryz.ntmps191
  go_upto_region 11 with(fail)
  obtain⟨g,hg⟩:∃x,w.heap.size=x:=⟨_,rfl⟩;obtain⟨wb,hwb⟩:∃x,w.alloc (.cells #[.int .i64 s,(.iface lt ld),(.iface hvt hvd)] 208)=x:=⟨_,rfl⟩;rw[hwb] at HB0 C0 C1 C2 HG ⊢
  rw[hg] at HB0 C0 C1 C2 HG ⊢
  have C0:Hid (wb.cell? ⟨g,0,none⟩=some (.int .i64 s)):=C0;have C1:Hid (wb.cell? ⟨g,1,none⟩=some (.iface lt ld)):=C1;have C2:Hid (wb.cell? ⟨g,2,none⟩=some (.iface hvt hvd)):=C2;clear hwb
  refine kS (σ:=Unit)
   (fun _ i=>match i with
   |0=>.pointer (some ⟨g,1,none⟩)
   |1=>.iface lt ld
   |2=>.int .i64 ll
   |3=>.pointer (some ⟨g,2,none⟩)
   |4=>.iface hvt hvd
   |5=>.int .i64 hl
   |6=>.int .i64 ll
   |7=>.int .i64 hl
   |_=>undef)
   (fun D _ wx=>Below wb.heap.size wb wx) () (fun D hD=>(ai _ _).drew) ?_ ?_
  ·refine Cs (fun D _ wx hR _ hd _ _ hs K hK=>?_) ?_
   ·have e6:=hs.o 6 (.pointer (some ⟨g,0,none⟩));clear hs;go_simp;exact hK () wx sv hR
   refine Cs (fun D _ wx hR _ hd _ _ hs K hK=>?_) ?_
   ·have e35:=hs.v 0 35 hd;clear hs;have c0:wx.cell? ⟨g,1,none⟩=some (.iface lt ld):=(aC hR _ _ HG.out).trans C1.out;go_simp;exact hK () wx sv hR
   refine Cs (fun D _ wx hR _ hd _ _ hs K hK=>?_) ?_
   ·have e36:=hs.v 1 36 hd;have g36:=aZ e36;clear hs;go_simp;refine(Tm.out wx).mono ?_;rintro e2 w2 ⟨rfl,hb2⟩;exact hK () w2 sv (hR.trans (hb2.mono hR.size))
   refine Cs (fun D _ wx hR _ hd _ _ hs K hK=>?_) ?_
   ·have e6:=hs.o 6 (.pointer (some ⟨g,0,none⟩));clear hs;go_simp;exact hK () wx sv hR
   refine Cs (fun D _ wx hR _ hd _ _ hs K hK=>?_) ?_
   ·have e38:=hs.v 3 38 hd;clear hs;have c0:wx.cell? ⟨g,2,none⟩=some (.iface hvt hvd):=(aC hR _ _ HG.out).trans C2.out;go_simp;exact hK () wx sv hR
   refine Cs (fun D _ wx hR _ hd _ _ hs K hK=>?_) ?_
   ·have e39:=hs.v 4 39 hd;have g39:=aZ e39;clear hs;go_simp;refine(HHL.out wx).mono ?_;rintro e2 w2 ⟨rfl,hb2⟩;exact hK () w2 sv (hR.trans (hb2.mono hR.size))
   refine Cs (fun D _ wx hR _ hd _ _ hs K hK=>?_) ?_
   ·have e37:=hs.v 2 37 hd;clear hs;go_simp;exact hK () wx sv hR
   refine Cs (fun D _ wx hR _ hd _ _ hs K hK=>?_) ?_
   ·have e40:=hs.v 5 40 hd;clear hs;go_simp;exact hK () wx sv hR
   exact au.nil
  intro D _ wx hR hD;simp only[eG,Act.put,aO,aS,aV];have HB1:=af hR;clear hR hD;have c0:wx.cell? ⟨g,0,none⟩=some (.int .i64 s):=(aC HB1.out _ _ HG.out).trans C0.out;have C1':Hid (wx.cell? ⟨g,1,none⟩=some (.iface lt ld)):=af ((aC HB1.out _ _ HG.out).trans C1.out);have C2':Hid (wx.cell? ⟨g,2,none⟩=some (.iface hvt hvd)):=af ((aC HB1.out _ _ HG.out).trans C2.out);have HG':Hid (g<wx.heap.size):=af (Nat.lt_of_lt_of_le HG.out HB1.out.size);have HB:Hid (Below w.heap.size w wx):=af (by rw[hg];exact HB0.out.trans (HB1.out.mono (by have:=HG.out;omega)));clear HG C1 C2 C0 HB0 HB1;obtain⟨wc,rfl⟩:∃x,x=wx:=⟨_,rfl⟩
  rcases YA.out with h8 | h9
  ·subst h8
   go_upto_region 13 with(fail)
   obtain⟨bl,hbl⟩:∃x,(ll == 9)=x:=⟨_,rfl⟩
   by_cases hn:hl=9
   ·subst hn
    have hT:(Cond.join 8 l h).text 0=partT l bl++38::partT h true:=by
     rw[HTX.out];simp only[if_true];rw[nG HKL.out 2 (by omega) bl (by rw[br2 HKL.out AY.out];exact hbl.symm),nG HKH.out 3 (by omega) true (by rw[br3 HKH.out HQH.out];rfl)]
    obtain⟨SL,BF⟩:∃x:ByteArray,(⟨(partT l bl).toArray⟩:ByteArray)=x:=⟨_,rfl⟩;obtain⟨SH,P5⟩:∃x:ByteArray,(⟨(partT h true).toArray⟩:ByteArray)=x:=⟨_,rfl⟩;have hz1:SL.size≤1000:=by rw[←BF,Lib.size_eq];exact TL.out bl
    have hz2:SH.size≤1000:=by rw[←P5,Lib.size_eq];exact HNH.out true
    have HT:=af (show SL++⟨#[38]⟩++SH=⟨((Cond.join _ l h).text 0).toArray⟩ by rw[hT,←BF,←P5,ba3]);have bG:=af (show¬9223372036854775807<SL.size+1 by omega);have HS2:=af (show¬9223372036854775807<SL.size+1+SH.size by omega);have JX:=Bx.mk BF;have QA:=Bx.mk P5;have XR:=Bx.mk hbl;clear hbl hT BF P5 hz1 hz2 c0
    refine kS (σ:=Unit)
     (fun _ i=>match i with
     |0=>.pointer (some ⟨g,1,none⟩)
     |1=>.iface lt ld
     |2=>.int .i64 ll
     |3=>.bool bl
     |4=>.string SL
     |5=>.string (SL++⟨#[38]⟩)
     |6=>.pointer (some ⟨g,2,none⟩)
     |7=>.iface hvt hvd
     |8=>.int .i64 9
     |9=>.bool true
     |10=>.bool true
     |13=>.bool true
     |14=>.string SH
     |15=>.string (SL++⟨#[38]⟩++SH)
     |16=>.string (SL++⟨#[38]⟩++SH)
     |_=>undef)
     (fun D _ wx=>Below wc.heap.size wc wx) () (fun D hD=>(ai _ _).drew) ?_ ?_
    ·refine Cs (fun D _ wx hR _ hd _ _ hs K hK=>?_) ?_
     ·have e6:=hs.o 6 (.pointer (some ⟨g,0,none⟩));clear hs;go_simp;exact hK () wx sv hR
     refine Cs (fun D _ wx hR _ hd _ _ hs K hK=>?_) ?_
     ·have e44:=hs.v 0 44 hd;clear hs;have c0:wx.cell? ⟨g,1,none⟩=some (.iface lt ld):=(aC hR _ _ HG'.out).trans C1'.out;go_simp;exact hK () wx sv hR
     refine Cs (fun D _ wx hR _ hd _ _ hs K hK=>?_) ?_
     ·have e7:=hs.o 7 (.int .i64 ll);clear hs;go_simp;exact hK () wx sv hR
     refine Cs (fun D _ wx hR _ hd _ _ hs K hK=>?_) ?_
     ·have e46:=hs.v 2 46 hd;clear hs;have q1:=XR.out;go_simp;exact hK () wx sv hR
     refine Cs (fun D _ wx hR _ hd _ _ hs K hK=>?_) ?_
     ·have e45:=hs.v 1 45 hd;have e47:=hs.v 3 47 hd;have g45:=aZ e45;have g47:=aZ e47;clear hs;go_simp;refine(AU.out bl wx).mono ?_;rw[JX.out];rintro e2 w2 ⟨rfl,hb2⟩;exact hK () w2 sv (hR.trans (hb2.mono hR.size))
     refine Cs (fun D _ wx hR _ hd _ _ hs K hK=>?_) ?_
     ·have e48:=hs.v 4 48 hd;clear hs;have q1:=bG.out;go_simp;exact hK () wx sv hR
     refine Cs (fun D _ wx hR _ hd _ _ hs K hK=>?_) ?_
     ·have e6:=hs.o 6 (.pointer (some ⟨g,0,none⟩));clear hs;go_simp;exact hK () wx sv hR
     refine Cs (fun D _ wx hR _ hd _ _ hs K hK=>?_) ?_
     ·have e50:=hs.v 6 50 hd;clear hs;have c0:wx.cell? ⟨g,2,none⟩=some (.iface hvt hvd):=(aC hR _ _ HG'.out).trans C2'.out;go_simp;exact hK () wx sv hR
     refine Cs (fun D _ wx hR _ hd _ _ hs K hK=>?_) ?_
     ·have e8:=hs.o 8 (.int .i64 9);clear hs;go_simp;exact hK () wx sv hR
     refine Cs (fun D _ wx hR _ hd _ _ hs K hK=>?_) ?_
     ·have e52:=hs.v 8 52 hd;clear hs;go_simp;exact hK () wx sv hR
     refine Cs (fun D _ wx hR _ hd _ _ hs K hK=>?_) ?_
     ·have e53:=hs.v 9 53 hd;clear hs;go_simp;exact hK () wx sv hR
     refine au.skip 10 54 true ?_;refine au.skip 10 54 true ?_;refine Cs (fun D _ wx hR _ hd _ _ hs K hK=>?_) ?_
     ·have e54:=hs.v 10 54 hd;have e56:=hs.v 12 56 hd;clear hs;go_simp;exact hK () wx sv hR
     refine Cs (fun D _ wx hR _ hd _ _ hs K hK=>?_) ?_
     ·have e51:=hs.v 7 51 hd;have e57:=hs.v 13 57 hd;have g51:=aZ e51;have g57:=aZ e57;clear hs;go_simp;refine(HPH.out true wx).mono ?_;rw[QA.out];rintro e2 w2 ⟨rfl,hb2⟩;exact hK () w2 sv (hR.trans (hb2.mono hR.size))
     refine Cs (fun D _ wx hR _ hd _ _ hs K hK=>?_) ?_
     ·have e49:=hs.v 5 49 hd;have e58:=hs.v 14 58 hd;clear hs;have q1:=HS2.out;go_simp;exact hK () wx sv hR
     refine Cs (fun D _ wx hR _ hd _ _ hs K hK=>?_) ?_
     ·have e59:=hs.v 15 59 hd;clear hs;go_simp;exact hK () wx sv hR
     exact au.nil
    intro D _ wx hR hD;simp only[eG,Act.put,aO,aS,aV];have HB2:=af (HB.out.trans (hR.mono HB.out.size));clear hR hD;go_wp2;go_ret;exact⟨dh HT.out,by rw[←hg];exact HB2.out⟩
   ·have hn':(hl == 9)=false:=beq_false_of_ne hn;obtain⟨bh,hbh⟩:∃x,(hl == 8)=x:=⟨_,rfl⟩
    have hT:(Cond.join 8 l h).text 0=partT l bl++38::partT h bh:=by
     rw[HTX.out];simp only[if_true];rw[nG HKL.out 2 (by omega) bl (by rw[br2 HKL.out AY.out];exact hbl.symm),nG HKH.out 3 (by omega) bh (by rw[br3 HKH.out HQH.out,hn',hbh];rfl)]
    obtain⟨SL,BF⟩:∃x:ByteArray,(⟨(partT l bl).toArray⟩:ByteArray)=x:=⟨_,rfl⟩;obtain⟨SH,P5⟩:∃x:ByteArray,(⟨(partT h bh).toArray⟩:ByteArray)=x:=⟨_,rfl⟩;have hz1:SL.size≤1000:=by rw[←BF,Lib.size_eq];exact TL.out bl
    have hz2:SH.size≤1000:=by rw[←P5,Lib.size_eq];exact HNH.out bh
    have HT:=af (show SL++⟨#[38]⟩++SH=⟨((Cond.join _ l h).text 0).toArray⟩ by rw[hT,←BF,←P5,ba3]);have bG:=af (show¬9223372036854775807<SL.size+1 by omega);have HS2:=af (show¬9223372036854775807<SL.size+1+SH.size by omega);have JX:=Bx.mk BF;have QA:=Bx.mk P5;have XR:=Bx.mk hbl;have HBH:=Bx.mk hbh;have HN9:=Bx.mk hn';clear hbl hbh hn hn' hT BF P5 hz1 hz2 c0
    refine kS (σ:=Unit)
     (fun _ i=>match i with
     |0=>.pointer (some ⟨g,1,none⟩)
     |1=>.iface lt ld
     |2=>.int .i64 ll
     |3=>.bool bl
     |4=>.string SL
     |5=>.string (SL++⟨#[38]⟩)
     |6=>.pointer (some ⟨g,2,none⟩)
     |7=>.iface hvt hvd
     |8=>.int .i64 hl
     |9=>.bool false
     |10=>.bool false
     |11=>.int .i64 hl
     |12=>.bool bh
     |13=>.bool bh
     |14=>.string SH
     |15=>.string (SL++⟨#[38]⟩++SH)
     |16=>.string (SL++⟨#[38]⟩++SH)
     |_=>undef)
     (fun D _ wx=>Below wc.heap.size wc wx) () (fun D hD=>(ai _ _).drew) ?_ ?_
    ·refine Cs (fun D _ wx hR _ hd _ _ hs K hK=>?_) ?_
     ·have e6:=hs.o 6 (.pointer (some ⟨g,0,none⟩));clear hs;go_simp;exact hK () wx sv hR
     refine Cs (fun D _ wx hR _ hd _ _ hs K hK=>?_) ?_
     ·have e44:=hs.v 0 44 hd;clear hs;have c0:wx.cell? ⟨g,1,none⟩=some (.iface lt ld):=(aC hR _ _ HG'.out).trans C1'.out;go_simp;exact hK () wx sv hR
     refine Cs (fun D _ wx hR _ hd _ _ hs K hK=>?_) ?_
     ·have e7:=hs.o 7 (.int .i64 ll);clear hs;go_simp;exact hK () wx sv hR
     refine Cs (fun D _ wx hR _ hd _ _ hs K hK=>?_) ?_
     ·have e46:=hs.v 2 46 hd;clear hs;have q1:=XR.out;go_simp;exact hK () wx sv hR
     refine Cs (fun D _ wx hR _ hd _ _ hs K hK=>?_) ?_
     ·have e45:=hs.v 1 45 hd;have e47:=hs.v 3 47 hd;have g45:=aZ e45;have g47:=aZ e47;clear hs;go_simp;refine(AU.out bl wx).mono ?_;rw[JX.out];rintro e2 w2 ⟨rfl,hb2⟩;exact hK () w2 sv (hR.trans (hb2.mono hR.size))
     refine Cs (fun D _ wx hR _ hd _ _ hs K hK=>?_) ?_
     ·have e48:=hs.v 4 48 hd;clear hs;have q1:=bG.out;go_simp;exact hK () wx sv hR
     refine Cs (fun D _ wx hR _ hd _ _ hs K hK=>?_) ?_
     ·have e6:=hs.o 6 (.pointer (some ⟨g,0,none⟩));clear hs;go_simp;exact hK () wx sv hR
     refine Cs (fun D _ wx hR _ hd _ _ hs K hK=>?_) ?_
     ·have e50:=hs.v 6 50 hd;clear hs;have c0:wx.cell? ⟨g,2,none⟩=some (.iface hvt hvd):=(aC hR _ _ HG'.out).trans C2'.out;go_simp;exact hK () wx sv hR
     refine Cs (fun D _ wx hR _ hd _ _ hs K hK=>?_) ?_
     ·have e8:=hs.o 8 (.int .i64 hl);clear hs;go_simp;exact hK () wx sv hR
     refine Cs (fun D _ wx hR _ hd _ _ hs K hK=>?_) ?_
     ·have e52:=hs.v 8 52 hd;clear hs;have q1:=HN9.out;go_simp;exact hK () wx sv hR
     refine Cs (fun D _ wx hR _ hd _ _ hs K hK=>?_) ?_
     ·have e53:=hs.v 9 53 hd;clear hs;go_simp;exact hK () wx sv hR
     refine dw (fun D _ wx hR _ hd _ _ hs K hK=>?_) ?_
     ·refine hs.yes 10 54 false hd ?_;have e8:=hs.o 8 (.int .i64 hl);clear hs;go_simp;exact hK () wx sv hR
     refine dw (fun D _ wx hR _ hd _ _ hs K hK=>?_) ?_
     ·refine hs.yes 10 54 false hd ?_;have e55:=hs.v 11 55 hd;clear hs;have q1:=HBH.out;go_simp;exact hK () wx sv hR
     refine Cs (fun D _ wx hR _ hd _ _ hs K hK=>?_) ?_
     ·have e54:=hs.v 10 54 hd;have e56:=hs.v 12 56 hd;clear hs;go_simp;exact hK () wx sv hR
     refine Cs (fun D _ wx hR _ hd _ _ hs K hK=>?_) ?_
     ·have e51:=hs.v 7 51 hd;have e57:=hs.v 13 57 hd;have g51:=aZ e51;have g57:=aZ e57;clear hs;go_simp;refine(HPH.out bh wx).mono ?_;rw[QA.out];rintro e2 w2 ⟨rfl,hb2⟩;exact hK () w2 sv (hR.trans (hb2.mono hR.size))
     refine Cs (fun D _ wx hR _ hd _ _ hs K hK=>?_) ?_
     ·have e49:=hs.v 5 49 hd;have e58:=hs.v 14 58 hd;clear hs;have q1:=HS2.out;go_simp;exact hK () wx sv hR
     refine Cs (fun D _ wx hR _ hd _ _ hs K hK=>?_) ?_
     ·have e59:=hs.v 15 59 hd;clear hs;go_simp;exact hK () wx sv hR
     exact au.nil
    intro D _ wx hR hD;simp only[eG,Act.put,aO,aS,aV];have HB2:=af (HB.out.trans (hR.mono HB.out.size));clear hR hD;go_wp2;go_ret;exact⟨dh HT.out,by rw[←hg];exact HB2.out⟩
  ·subst h9
   go_upto_region 14 with(fail)
   obtain⟨bh,hbh⟩:∃x,(hl == 9)=x:=⟨_,rfl⟩
   have hT:(Cond.join 9 l h).text 0=partT l false++124::partT h bh:=by
    rw[HTX.out];rw[if_neg (by decide),if_neg (by decide)];rw[nG HKL.out 1 (by omega) false (br1 HKL.out).symm,nG HKH.out 2 (by omega) bh (by rw[br2 HKH.out HQH.out];exact hbh.symm)]
   obtain⟨SL,BF⟩:∃x:ByteArray,(⟨(partT l false).toArray⟩:ByteArray)=x:=⟨_,rfl⟩;obtain⟨SH,P5⟩:∃x:ByteArray,(⟨(partT h bh).toArray⟩:ByteArray)=x:=⟨_,rfl⟩;have hz1:SL.size≤1000:=by rw[←BF,Lib.size_eq];exact TL.out false
   have hz2:SH.size≤1000:=by rw[←P5,Lib.size_eq];exact HNH.out bh
   have HT:=af (show SL++⟨#[124]⟩++SH=⟨((Cond.join _ l h).text 0).toArray⟩ by rw[hT,←BF,←P5,ba3]);have bG:=af (show¬9223372036854775807<SL.size+1 by omega);have HS2:=af (show¬9223372036854775807<SL.size+1+SH.size by omega);have JX:=Bx.mk BF;have QA:=Bx.mk P5;have HBH:=Bx.mk hbh;clear hbh hT BF P5 hz1 hz2 c0
   refine kS (σ:=Unit)
    (fun _ i=>match i with
    |0=>.pointer (some ⟨g,1,none⟩)
    |1=>.iface lt ld
    |2=>.string SL
    |3=>.string (SL++⟨#[124]⟩)
    |4=>.pointer (some ⟨g,2,none⟩)
    |5=>.iface hvt hvd
    |6=>.int .i64 hl
    |7=>.bool bh
    |8=>.string SH
    |9=>.string (SL++⟨#[124]⟩++SH)
    |10=>.string (SL++⟨#[124]⟩++SH)
    |_=>undef)
    (fun D _ wx=>Below wc.heap.size wc wx) () (fun D hD=>(ai _ _).drew) ?_ ?_
   ·refine Cs (fun D _ wx hR _ hd _ _ hs K hK=>?_) ?_
    ·have e6:=hs.o 6 (.pointer (some ⟨g,0,none⟩));clear hs;go_simp;exact hK () wx sv hR
    refine Cs (fun D _ wx hR _ hd _ _ hs K hK=>?_) ?_
    ·have e60:=hs.v 0 60 hd;clear hs;have c0:wx.cell? ⟨g,1,none⟩=some (.iface lt ld):=(aC hR _ _ HG'.out).trans C1'.out;go_simp;exact hK () wx sv hR
    refine Cs (fun D _ wx hR _ hd _ _ hs K hK=>?_) ?_
    ·have e61:=hs.v 1 61 hd;have g61:=aZ e61;clear hs;go_simp;refine(AU.out false wx).mono ?_;rw[JX.out];rintro e2 w2 ⟨rfl,hb2⟩;exact hK () w2 sv (hR.trans (hb2.mono hR.size))
    refine Cs (fun D _ wx hR _ hd _ _ hs K hK=>?_) ?_
    ·have e62:=hs.v 2 62 hd;clear hs;have q1:=bG.out;go_simp;exact hK () wx sv hR
    refine Cs (fun D _ wx hR _ hd _ _ hs K hK=>?_) ?_
    ·have e6:=hs.o 6 (.pointer (some ⟨g,0,none⟩));clear hs;go_simp;exact hK () wx sv hR
    refine Cs (fun D _ wx hR _ hd _ _ hs K hK=>?_) ?_
    ·have e64:=hs.v 4 64 hd;clear hs;have c0:wx.cell? ⟨g,2,none⟩=some (.iface hvt hvd):=(aC hR _ _ HG'.out).trans C2'.out;go_simp;exact hK () wx sv hR
    refine Cs (fun D _ wx hR _ hd _ _ hs K hK=>?_) ?_
    ·have e8:=hs.o 8 (.int .i64 hl);clear hs;go_simp;exact hK () wx sv hR
    refine Cs (fun D _ wx hR _ hd _ _ hs K hK=>?_) ?_
    ·have e66:=hs.v 6 66 hd;clear hs;have q1:=HBH.out;go_simp;exact hK () wx sv hR
    refine Cs (fun D _ wx hR _ hd _ _ hs K hK=>?_) ?_
    ·have e65:=hs.v 5 65 hd;have WV:=hs.v 7 67 hd;have g65:=aZ e65;have g67:=aZ WV;clear hs;go_simp;refine(HPH.out bh wx).mono ?_;rw[QA.out];rintro e2 w2 ⟨rfl,hb2⟩;exact hK () w2 sv (hR.trans (hb2.mono hR.size))
    refine Cs (fun D _ wx hR _ hd _ _ hs K hK=>?_) ?_
    ·have e63:=hs.v 3 63 hd;have e68:=hs.v 8 68 hd;clear hs;have q1:=HS2.out;go_simp;exact hK () wx sv hR
    refine Cs (fun D _ wx hR _ hd _ _ hs K hK=>?_) ?_
    ·have e69:=hs.v 9 69 hd;clear hs;go_simp;exact hK () wx sv hR
    exact au.nil
   intro D _ wx hR hD;simp only[eG,Act.put,aO,aS,aV];have HB2:=af (HB.out.trans (hR.mono HB.out.size));clear hR hD;go_wp2;go_ret;exact⟨dh HT.out,by rw[←hg];exact HB2.out⟩
end Go.Proofs.YtkmcengmglgdeaaGreatDoor
