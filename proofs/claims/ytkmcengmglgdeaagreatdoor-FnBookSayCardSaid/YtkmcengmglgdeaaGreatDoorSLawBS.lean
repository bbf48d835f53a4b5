/- A part of the proof: LawBS. -/
import Derived.Test.YtkmcengmglgdeaaGreatDoorSStrEq
import Derived.Test.YtkmcengmglgdeaaGreatDoorSTDraw2
namespace Go.Proofs.YtkmcengmglgdeaaGreatDoor
set_option linter.unusedVariables false
set_option linter.unusedSimpArgs false
set_option maxRecDepth 100000
set_option maxHeartbeats 8000000
open Go.ChangeShapes Go.WideShapes Go.ChangeAt Go.RowKit
theorem CW (A:Option Addr) (n c:Nat) (xs:List Int) (w:World) (h:jd .u8 w w.heap.size A n c xs) (he:rQ w) (hp:lF w):
  Calls Tryz.prog 5 #[.slice A n c] w fun e w'=>e= .returned (.bool true)∧Below w.heap.size w w':=by
 have hcap:=h.cap;have hmax:=h.dw
 unfold maxLen at hmax
 have H:=af h;have HE:=af he;have HP:=af hp;clear h he hp
 by_cases hn:n≤1048576
 case neg=>
  go_enter Tryz.func5,Tryz.ntmps5;go_wp2;go_ret;exact⟨rfl,ai _ _⟩
 go_enter Tryz.func5,Tryz.ntmps5
 go_wp2_with fail
 refine(J7 A n c xs _ H.out).mono ?_;rintro e w1 ⟨v1,b,v4,ls,rfl,hll,hlen,s1⟩;have ND:Hid (∀l∈ls,l.length≤1048576):=af fun l hl=>by have:=hll l hl;omega
 clear hll;obtain⟨B1,wJ,wK,B2,wL,wM,B3,wO,wP,hv⟩:=s1.gU 0 rfl;obtain⟨A4,c4,hv4,-⟩:=s1.oD 1 rfl;obtain⟨n4,hn4⟩:∃x,ls.length=x:=⟨_,rfl⟩;have HN4:=Bx.mk hn4;obtain⟨os,hos⟩:∃x,b.order.start=x:=⟨_,rfl⟩;obtain⟨st,hst⟩:∃x,b.state=x:=⟨_,rfl⟩;have nP:=Bx.mk hos;have HST:=Bx.mk hst;rw[hos,hst] at hv;rw[hn4] at hv4 hlen;subst hv hv4;have aeE:=(s1.BM 1 rfl).cap;have abe:=(s1.BM 1 rfl).dw
 unfold maxLen at abe
 obtain⟨g3,hg3⟩:∃x,w1.heap.size=x:=⟨_,rfl⟩;have bf:Hid (St w (w1.alloc (.cells #[.int .i64 os,.slice B1 wJ wK,.slice B2 wL wM,.slice B3 wO wP,.int .i64 st] 28)) [aI (.agg #[.int .i64 os,.slice B1 wJ wK,.slice B2 wL wM,.slice B3 wO wP,.int .i64 st]) b,bP (.slice A4 n4 c4) ls,ah g3 28 #[.int .i64 os,.slice B1 wJ wK,.slice B2 wL wM,.slice B3 wO wP,.int .i64 st]]):=af (by rw[←hg3];exact s1.alloc _ _);clear s1 hos hst hn4
 try rw[hg3]
 obtain⟨⟨x,aw⟩,hxb⟩:∃y,dW b ls=y:=⟨_,rfl⟩;have HXB:=Bx.mk hxb;obtain⟨an,han⟩:∃y,aw.length=y:=⟨_,rfl⟩;have HAN:=Bx.mk han;have aeF:an≤40:=by have:=Ug b ls;rw[hxb] at this;rw[←han];exact this
 obtain⟨jI,hxs⟩:∃y,x.order.start=y:=⟨_,rfl⟩;obtain⟨xt,hxt⟩:∃y,x.state=y:=⟨_,rfl⟩;have Uh:=Bx.mk hxs;have Ui:=Bx.mk hxt;clear hxb han hxs hxt;have Iy:=bf.out.cells 2 rfl
 go_wp2_with fail
 refine(zD _ b x _ _ _ ls aw _ (bf.out.CX 0 rfl) (bf.out.BM 1 rfl) (HE.out.up bf.out.below) (HP.out.up bf.out.below) ND.out HXB.out).mono ?_;rintro e w2 ⟨vX,vaX,rfl,sX⟩;obtain⟨X1,xY,xZ,X2,x9,yg,X3,yh,yj,hv⟩:=sX.gU 0 rfl;obtain⟨XA,xc,hva,-⟩:=sX.oD 1 rfl;rw[Uh.out,Ui.out] at hv;rw[HAN.out] at hva;subst hv hva;obtain⟨g5,hg5⟩:∃y,w2.heap.size=y:=⟨_,rfl⟩;have HS2:Hid (St w (w2.alloc (.cells #[.int .i64 jI,.slice X1 xY xZ,.slice X2 x9 yg,.slice X3 yh yj,.int .i64 xt] 28)) [aI (.agg #[.int .i64 os,.slice B1 wJ wK,.slice B2 wL wM,.slice B3 wO wP,.int .i64 st]) b,bP (.slice A4 n4 c4) ls,ah g3 28 #[.int .i64 os,.slice B1 wJ wK,.slice B2 wL wM,.slice B3 wO wP,.int .i64 st],aI (.agg #[.int .i64 jI,.slice X1 xY xZ,.slice X2 x9 yg,.slice X3 yh yj,.int .i64 xt]) x,bP (.slice XA an xc) aw,ah g5 28 #[.int .i64 jI,.slice X1 xY xZ,.slice X2 x9 yg,.slice X3 yh yj,.int .i64 xt]]):=af (by rw[←hg5];exact(bf.out.call sX).alloc _ _);clear sX bf Iy
 try rw[hg5]
 have Iy:=HS2.out.cells 2 rfl;have J8:=HS2.out.cells 5 rfl
 go_wp2_with fail
 refine(QY _ b x _ _ _ ls aw _ (HS2.out.CX 0 rfl) (HS2.out.BM 1 rfl) ND.out HXB.out).mono ?_;rintro e w3 ⟨vY,vaY,rfl,sY⟩;obtain⟨Y1,Yi1,Yj1,Y2,Yi2,Yj2,Y3,Yi3,Yj3,hv⟩:=sY.gU 0 rfl;obtain⟨YA,yc,hva,-⟩:=sY.oD 1 rfl;rw[Uh.out,Ui.out] at hv;rw[HAN.out] at hva;subst hv hva;obtain⟨g7,WB⟩:∃y,w3.heap.size=y:=⟨_,rfl⟩;have cu:Hid (St w (w3.alloc (.cells #[.int .i64 jI,.slice Y1 Yi1 Yj1,.slice Y2 Yi2 Yj2,.slice Y3 Yi3 Yj3,.int .i64 xt] 28)) [aI (.agg #[.int .i64 os,.slice B1 wJ wK,.slice B2 wL wM,.slice B3 wO wP,.int .i64 st]) b,bP (.slice A4 n4 c4) ls,ah g3 28 #[.int .i64 os,.slice B1 wJ wK,.slice B2 wL wM,.slice B3 wO wP,.int .i64 st],aI (.agg #[.int .i64 jI,.slice X1 xY xZ,.slice X2 x9 yg,.slice X3 yh yj,.int .i64 xt]) x,bP (.slice XA an xc) aw,ah g5 28 #[.int .i64 jI,.slice X1 xY xZ,.slice X2 x9 yg,.slice X3 yh yj,.int .i64 xt],aI (.agg #[.int .i64 jI,.slice Y1 Yi1 Yj1,.slice Y2 Yi2 Yj2,.slice Y3 Yi3 Yj3,.int .i64 xt]) x,bP (.slice YA an yc) aw,ah g7 28 #[.int .i64 jI,.slice Y1 Yi1 Yj1,.slice Y2 Yi2 Yj2,.slice Y3 Yi3 Yj3,.int .i64 xt]]):=af (by rw[←WB];exact(HS2.out.call sY).alloc _ _);clear sY HS2 Iy J8
 try rw[WB]
 have Iy:=cu.out.cells 2 rfl;have J8:=cu.out.cells 5 rfl;have qg7:=cu.out.cells 8 rfl
 go_wp2_with fail
 refine(rU _ x _ x _ (cu.out.CX 3 rfl) (cu.out.CX 6 rfl)).mono ?_;rw[decide_eq_true rfl];rintro e w4 ⟨rfl,Yj⟩;have fH:=af (cu.out.quiet Yj);clear Yj cu Iy J8 qg7;have Iy:=fH.out.cells 2 rfl;have J8:=fH.out.cells 5 rfl
 go_wp2_with fail
 refine(wQ _ _ _ aw _ _ _ aw _ (fH.out.BM 4 rfl) (fH.out.BM 7 rfl)).mono ?_;rw[decide_eq_true rfl];rintro e w5 ⟨rfl,Yk⟩;have dX:=af (fH.out.quiet Yk);clear Yk fH Iy J8;have Iy:=dX.out.cells 2 rfl;have J8:=dX.out.cells 5 rfl;obtain⟨bo,yt⟩:∃y,aN b=y:=⟨_,rfl⟩;have HBO:=Bx.mk yt;clear yt
 go_wp2_with fail
 refine(dM _ b _ (dX.out.CX 0 rfl)).mono ?_;rw[HBO.out];rintro e w6 ⟨rfl,Yl⟩;have jB:=af (dX.out.quiet Yl);clear Yl dX Iy J8;have Iy:=jB.out.cells 2 rfl;have J8:=jB.out.cells 5 rfl
 by_cases hcase:bo=false∨¬n4≤40
 ·have hz:=rV (b:=b) (ls:=ls) (by rcases hcase with h | h;exact .inl (HBO.out.trans h);exact .inr (by rw[HN4.out];exact h));rw[HXB.out] at hz;have hx0:x=oG:=congrArg Prod.fst hz;have ha0:aw=[]:=congrArg Prod.snd hz;have hn0:an=0:=by rw[←HAN.out,ha0];rfl
  have HX0:=Bx.mk hx0;subst hn0;clear hz hx0 ha0
  cases bo with
  |false=>
   go_wp2_with fail
   refine(CY _ x _ (jB.out.CX 3 rfl)).mono ?_;rw[decide_eq_true (show x=⟨⟨0,[],[]⟩,[],0⟩ from HX0.out)];rintro e w7 ⟨rfl,J9⟩;have je:=af (jB.out.quiet J9);clear J9 jB Iy J8
   go_wp2_with fail
   refine(alive_any _).mono ?_;rintro e wa ⟨rfl,hba⟩;have HSA:=af (je.out.quiet hba).below;clear hba;go_wp2;go_ret;exact⟨rfl,HSA.out⟩
  |true=>
   have uf:(40:Int)<(n4:Int):=by rcases hcase with h | h;cases h;omega
   clear hcase
   go_wp2_with fail
   refine(CY _ x _ (jB.out.CX 3 rfl)).mono ?_;rw[decide_eq_true (show x=⟨⟨0,[],[]⟩,[],0⟩ from HX0.out)];rintro e w7 ⟨rfl,J9⟩;have je:=af (jB.out.quiet J9);clear J9 jB Iy J8
   go_wp2_with fail
   refine(alive_any _).mono ?_;rintro e wa ⟨rfl,hba⟩;have HSA:=af (je.out.quiet hba).below;clear hba;go_wp2;go_ret;exact⟨rfl,HSA.out⟩
 ·have yt:bo=true:=by cases bo<;>simp_all
  subst yt;have kQ:n4≤40:=by omega
  have PZ:¬(40:Int)<(n4:Int):=by omega
  clear hcase;obtain⟨hf,hhf⟩:∃y,n4/2=y:=⟨_,rfl⟩;have ZG:hf≤n4:=by omega
  have adh:(n4:Int).tdiv 2=(hf:Int):=by rw[Int.tdiv_eq_ediv_of_nonneg (by omega)];omega
  have adi:(n4:Int)/2=(hf:Int):=by omega
  obtain⟨sf,hsf⟩:∃y,n4-hf=y:=⟨_,rfl⟩;have aeT:sf≤40:=by omega
  obtain⟨k1,k2,k3,k4,k5,k6,k7,k8,k9⟩:=Ko (ls:=ls) HBO.out (by rw[HN4.out];exact kQ) hf (by rw[HN4.out];exact ZG);rw[HXB.out] at k1 k2 k3 k4 k7 k9;obtain⟨⟨ab,f1⟩,hab⟩:∃y,dW b (ls.take hf)=y:=⟨_,rfl⟩;rw[hab] at k5 k6 k7 k8 k9;obtain⟨⟨cb,f2⟩,hcb⟩:∃y,dW ab (ls.drop hf)=y:=⟨_,rfl⟩
  try dsimp only at k1 k2 k3 k4 k5 k6 k7 k8 k9
  rw[hcb] at k7 k8 k9
  try dsimp only at k7 k8 k9
  obtain rfl:x=cb:=k7.symm;rw[HN4.out,hsf] at k8;rw[HN4.out,HAN.out] at k3;obtain rfl:an=n4:=k3;have adk:=Bx.mk k1;have HXO:=Bx.mk k2;have WJ:=Bx.mk k4;have HAB:=Bx.mk hab;have HCB:=Bx.mk hcb;have HF1:=Bx.mk k6;have HF2:=Bx.mk k8;have adl:=Bx.mk k9;have aeG:=Bx.mk k5;obtain⟨as0,has⟩:∃y,ab.order.start=y:=⟨_,rfl⟩;obtain⟨at0,hat⟩:∃y,ab.state=y:=⟨_,rfl⟩;have HAS:=Bx.mk has;have HAT:=Bx.mk hat;have HLT:Hid (∀l∈ls.take hf,l.length≤1048576):=af fun l hl=>ND.out l (List.mem_of_mem_take hl)
  have P5:Hid (∀l∈ls.drop hf,l.length≤1048576):=af fun l hl=>ND.out l (List.mem_of_mem_drop hl)
  have Ua:Hid (St w w6 [aI (.agg #[.int .i64 os,.slice B1 wJ wK,.slice B2 wL wM,.slice B3 wO wP,.int .i64 st]) b,bP (.slice A4 an c4) ls,ah g3 28 #[.int .i64 os,.slice B1 wJ wK,.slice B2 wL wM,.slice B3 wO wP,.int .i64 st],aI (.agg #[.int .i64 jI,.slice X1 xY xZ,.slice X2 x9 yg,.slice X3 yh yj,.int .i64 xt]) x,bP (.slice XA an xc) aw,ah g5 28 #[.int .i64 jI,.slice X1 xY xZ,.slice X2 x9 yg,.slice X3 yh yj,.int .i64 xt]]):=af (jB.out.pick [0,1,2,3,4,5] (by decide) rfl rfl);clear has hat hab hcb k1 k2 k4 k5 k6 k8 k9 hhf jB
  go_upto_region 11 with(fail)
  try rw[adh]
  try rw[adi]
  clear hg3 hg5 WB Iy J8
  refine kG (σ:=(((Option Addr×Nat×Nat)×(Option Addr×Nat×Nat)×(Option Addr×Nat×Nat))×(Option Addr×Nat))×Nat)
   (fun s i=>match i with
    |0=>.agg #[.int .i64 os,.slice B1 wJ wK,.slice B2 wL wM,.slice B3 wO wP,.int .i64 st]
    |1=>.slice A4 an c4
    |2=>.int .i64 (hf:Int)
    |3=>.slice A4 hf c4
    |4=>.tuple #[.agg #[.int .i64 as0,.slice s.1.1.1.1 s.1.1.1.2.1 s.1.1.1.2.2,.slice s.1.1.2.1.1 s.1.1.2.1.2.1 s.1.1.2.1.2.2,.slice s.1.1.2.2.1 s.1.1.2.2.2.1 s.1.1.2.2.2.2,.int .i64 at0],.slice s.1.2.1 hf s.1.2.2]
    |5=>.tuple #[.agg #[.int .i64 as0,.slice s.1.1.1.1 s.1.1.1.2.1 s.1.1.1.2.2,.slice s.1.1.2.1.1 s.1.1.2.1.2.1 s.1.1.2.1.2.2,.slice s.1.1.2.2.1 s.1.1.2.2.2.1 s.1.1.2.2.2.2,.int .i64 at0],.slice s.1.2.1 hf s.1.2.2]
    |6=>.agg #[.int .i64 as0,.slice s.1.1.1.1 s.1.1.1.2.1 s.1.1.1.2.2,.slice s.1.1.2.1.1 s.1.1.2.1.2.1 s.1.1.2.1.2.2,.slice s.1.1.2.2.1 s.1.1.2.2.2.1 s.1.1.2.2.2.2,.int .i64 at0]
    |7=>.slice s.1.2.1 hf s.1.2.2
    |8=>.pointer (some ⟨s.2,0,none⟩)
    |10=>.slice s.1.2.1 hf s.1.2.2
    |_=>undef)
   (fun D s wy=>Sn w wy fun i=>match i with
    |0=>some (aI (.agg #[.int .i64 os,.slice B1 wJ wK,.slice B2 wL wM,.slice B3 wO wP,.int .i64 st]) b)
    |1=>some (bP (.slice A4 an c4) ls)
    |2=>some (ah g3 28 #[.int .i64 os,.slice B1 wJ wK,.slice B2 wL wM,.slice B3 wO wP,.int .i64 st])
    |3=>some (aI (.agg #[.int .i64 jI,.slice X1 xY xZ,.slice X2 x9 yg,.slice X3 yh yj,.int .i64 xt]) x)
    |4=>some (bP (.slice XA an xc) aw)
    |5=>some (ah g5 28 #[.int .i64 jI,.slice X1 xY xZ,.slice X2 x9 yg,.slice X3 yh yj,.int .i64 xt])
    |6=>if D 4=true then some (NM [aI (.agg #[.int .i64 as0,.slice s.1.1.1.1 s.1.1.1.2.1 s.1.1.1.2.2,.slice s.1.1.2.1.1 s.1.1.2.1.2.1 s.1.1.2.1.2.2,.slice s.1.1.2.2.1 s.1.1.2.2.2.1 s.1.1.2.2.2.2,.int .i64 at0]) ab,bP (.slice s.1.2.1 hf s.1.2.2) f1]) else none
    |7=>if D 8=true then some (ah s.2 28 (if D 9=true then #[.int .i64 as0,.slice s.1.1.1.1 s.1.1.1.2.1 s.1.1.1.2.2,.slice s.1.1.2.1.1 s.1.1.2.1.2.1 s.1.1.2.1.2.2,.slice s.1.1.2.2.1 s.1.1.2.2.2.1 s.1.1.2.2.2.2,.int .i64 at0] else #[.int .i64 0,.slice none 0 0,.slice none 0 0,.slice none 0 0,.int .i64 0])) else none
    |_=>none)
   ((((none,0,0),(none,0,0),(none,0,0)),(none,0)),0) ?_ ?_ ?_
  ·intro D hD;refine((Sn.dN Ua.out).quiet ((ai _ _).drew)).congr fun i=>?_
   match i with
   |0 | 1 | 2 | 3 | 4 | 5=>rfl
   |6=>simp only[hD 4 (by decide)];rfl
   |7=>simp only[hD 8 (by decide)];rfl
   |q+8=>rfl
  ·refine Cs (fun D s wy hR _ hd _ _ hs K hK=>?_) ?_
   ·have e3:=hs.o 3 (.pointer (some ⟨g3,0,none⟩));clear hs;have qk:=(hR.blk 2 rfl).cell;go_simp;exact hK s wy sv hR
   refine Cs (fun D s wy hR _ hd _ _ hs K hK=>?_) ?_
   ·have e4:=hs.o 4 (.slice A4 an c4);clear hs;go_simp;exact hK s wy sv hR
   refine Cs (fun D s wy hR _ hd _ _ hs K hK=>?_) ?_
   ·have e9:=hs.o 9 (.int .i64 (hf:Int));clear hs;go_simp;exact hK s wy sv hR
   refine Cs (fun D s wy hR _ hd _ _ hs K hK=>?_) ?_
   ·have e72:=hs.v 1 72 hd;have e73:=hs.v 2 73 hd;clear hs;refine step_take 43 (.tmp 72) (.tmp 73) rfl 1 (by kernel_rfl) P6 A4 an c4 hf e72 e73 (by omega) ?_;exact hK s wy sv hR
   refine Cs (fun D s wy hR (hDi:D 4=false) hd hsh _ hs K hK=>?_) ?_
   ·have e71:=hs.v 0 71 hd;have e74:=hs.v 3 74 hd;have g71:=aX e71;have g74:=aX e74;clear hs;have n5:D 5=false:=hsh.no hDi 5 rfl ⟨4,.data⟩ (by simp) rfl rfl;have n6:D 6=false:=hsh.no n5 6 rfl ⟨5,.data⟩ (by simp) rfl rfl;have n7:D 7=false:=hsh.no n5 7 rfl ⟨5,.data⟩ (by simp) rfl rfl;have n9:D 9=false:=hsh.no n6 9 rfl ⟨6,.data⟩ (by simp) rfl rfl;have n10:D 10=false:=hsh.no n7 10 rfl ⟨7,.data⟩ (by simp) rfl rfl;go_simp;refine(zD _ b ab _ _ _ (ls.take hf) f1 _ (hR.CX 0 rfl) ((hR.eG [1] (by decide) (L:=[bP (.slice A4 an c4) ls]) rfl).BM 0 rfl |>.abf ZG) (HE.out.up hR.below) (HP.out.up hR.below) HLT.out HAB.out).mono ?_;rintro e2 w2 ⟨v2,va2,rfl,s2⟩;obtain⟨Q1,y1,z1,Q2,y2,z2,Q3,y3,z3,hv⟩:=s2.gU 0 rfl;obtain⟨QA,qc,hva,-⟩:=s2.oD 1 rfl;rw[HAS.out,HAT.out] at hv;rw[HF1.out] at hva;subst hv hva
    refine hK ((((Q1,y1,z1),(Q2,y2,z2),(Q3,y3,z3)),(QA,qc)),s.2) w2
     (fun j hj=>by
      match j,hj with
      |0,hj | 1,hj | 2,hj | 3,hj=>rfl
      |4,hj=>rw[hDi] at hj;cases hj
      |5,hj=>rw[n5] at hj;cases hj
      |6,hj=>rw[n6] at hj;cases hj
      |7,hj=>rw[n7] at hj;cases hj
      |8,hj=>rfl
      |9,hj=>rw[n9] at hj;cases hj
      |10,hj=>rw[n10] at hj;cases hj
      |_+11,hj=>rfl)
     ((hR.add 6 (if_neg (by rw[hDi];simp)) (St.pack (Rs:=[]) s2)).congr
      (fun i=>by
       match i with
       |0 | 1 | 2 | 3 | 4 | 5 | 6=>rfl
       |7=>(show(if D 8=true then some (ah _ _ (if D 9=true then _ else _)) else none)=(if D 8=true then some (ah _ _ (if D 9=true then _ else _)) else none);rw[n9]<;>rfl)
       |q+8=>exact(if_neg (show¬(q+8=6) by omega)).symm))
   refine Cs (fun D s wy hR _ hd _ _ hs K hK=>?_) ?_
   ·have e75:=hs.v 4 75 hd;clear hs;go_simp;exact hK s wy sv hR
   refine Cs (fun D s wy hR _ hd _ _ hs K hK=>?_) ?_
   ·have e70:=hs.v 5 70 hd;clear hs;go_simp;exact hK s wy sv hR
   refine Cs (fun D s wy hR _ hd _ _ hs K hK=>?_) ?_
   ·have e70:=hs.v 5 70 hd;clear hs;go_simp;exact hK s wy sv hR
   refine Cs (fun D s wy hR (hDi:D 8=false) hd hsh _ hs K hK=>?_) ?_
   ·clear hs;have n9:D 9=false:=hsh.no hDi 9 rfl ⟨8,.data⟩ (by simp) rfl rfl;go_simp
    refine hK (s.1,wy.heap.size) _
     (fun j hj=>by
      match j,hj with
      |0,hj | 1,hj | 2,hj | 3,hj | 4,hj | 5,hj | 6,hj | 7,hj=>rfl
      |8,hj=>rw[hDi] at hj;cases hj
      |9,hj | 10,hj=>rfl
      |_+11,hj=>rfl)
     ((hR.add 7 (if_neg (by rw[hDi];simp)) (St.new1 wy #[.int .i64 0,.slice none 0 0,.slice none 0 0,.slice none 0 0,.int .i64 0] 28)).congr
      (fun i=>by
       match i with
       |0 | 1 | 2 | 3 | 4 | 5 | 6=>rfl
       |7=>(show some (ah _ _ (if D 9=true then _ else _))=some (ah _ _ _);rw[n9]<;>rfl)
       |q+8=>exact(if_neg (show¬(q+8=7) by omega)).symm))
   refine Cs (fun D s wy hR (hDi:D 9=false) hd _ _ hs K hK=>?_) ?_
   ·have e10:=hs.v 8 10 hd;have e76:=hs.v 6 76 hd;clear hs;have d8:D 8=true:=hd ⟨8,.data⟩ (by simp) rfl;have kb:fU wy s.2 28 #[.int .i64 0,.slice none 0 0,.slice none 0 0,.slice none 0 0,.int .i64 0]:=hR.blk 7 (by simp only[d8,hDi]<;>rfl);have f0:=kb.frozen;have qk:=kb.cell;go_simp
    exact hK s _ sv ((hR.fF 7 (by simp only[d8,hDi];rfl) _ _ _ _ _).congr
     (fun i=>by
      match i with
      |0 | 1 | 2 | 3 | 4 | 5 | 6=>rfl
      |7=>(show(if D 8=true then some (ah _ _ _) else none)=some (ah _ _ _);rw[d8];rfl)
      |q+8=>exact(if_neg (show¬(q+8=7) by omega)).symm))
   refine Cs (fun D s wy hR _ hd _ _ hs K hK=>?_) ?_
   ·have e77:=hs.v 7 77 hd;clear hs;go_simp;exact hK s wy sv hR
   exact aj.nil
  ·intro D s wy hR hD;simp only[eH,Act.put,aO,aU,aW];have uo:=St.unpack (Rs:=[aI (.agg #[.int .i64 os,.slice B1 wJ wK,.slice B2 wL wM,.slice B3 wO wP,.int .i64 st]) b,bP (.slice A4 an c4) ls,ah g3 28 #[.int .i64 os,.slice B1 wJ wK,.slice B2 wL wM,.slice B3 wO wP,.int .i64 st],aI (.agg #[.int .i64 jI,.slice X1 xY xZ,.slice X2 x9 yg,.slice X3 yh yj,.int .i64 xt]) x,bP (.slice XA an xc) aw,ah g5 28 #[.int .i64 jI,.slice X1 xY xZ,.slice X2 x9 yg,.slice X3 yh yj,.int .i64 xt],ah s.2 28 #[.int .i64 as0,.slice s.1.1.1.1 s.1.1.1.2.1 s.1.1.1.2.2,.slice s.1.1.2.1.1 s.1.1.2.1.2.1 s.1.1.2.1.2.2,.slice s.1.1.2.2.1 s.1.1.2.2.2.1 s.1.1.2.2.2.2,.int .i64 at0]]) (hR.eG [0,1,2,3,4,5,7,6] (L:=[aI (.agg #[.int .i64 os,.slice B1 wJ wK,.slice B2 wL wM,.slice B3 wO wP,.int .i64 st]) b,bP (.slice A4 an c4) ls,ah g3 28 #[.int .i64 os,.slice B1 wJ wK,.slice B2 wL wM,.slice B3 wO wP,.int .i64 st],aI (.agg #[.int .i64 jI,.slice X1 xY xZ,.slice X2 x9 yg,.slice X3 yh yj,.int .i64 xt]) x,bP (.slice XA an xc) aw,ah g5 28 #[.int .i64 jI,.slice X1 xY xZ,.slice X2 x9 yg,.slice X3 yh yj,.int .i64 xt],ah s.2 28 #[.int .i64 as0,.slice s.1.1.1.1 s.1.1.1.2.1 s.1.1.1.2.2,.slice s.1.1.2.1.1 s.1.1.2.1.2.1 s.1.1.2.1.2.2,.slice s.1.1.2.2.1 s.1.1.2.2.2.1 s.1.1.2.2.2.2,.int .i64 at0],NM [aI (.agg #[.int .i64 as0,.slice s.1.1.1.1 s.1.1.1.2.1 s.1.1.1.2.2,.slice s.1.1.2.1.1 s.1.1.2.1.2.1 s.1.1.2.1.2.2,.slice s.1.1.2.2.1 s.1.1.2.2.2.1 s.1.1.2.2.2.2,.int .i64 at0]) ab,bP (.slice s.1.2.1 hf s.1.2.2) f1]]) (by decide) (by simp only[List.map,hD 4 (by decide),hD 8 (by decide),hD 9 (by decide)]<;>rfl));obtain⟨⟨⟨⟨E1,Kq,Kr⟩,⟨E2,Kt,Ku⟩,⟨E3,Kv,Kw⟩⟩,⟨FA,fc⟩⟩,g10⟩:=s;have je:Hid (St w wy [aI (.agg #[.int .i64 os,.slice B1 wJ wK,.slice B2 wL wM,.slice B3 wO wP,.int .i64 st]) b,bP (.slice A4 an c4) ls,ah g3 28 #[.int .i64 os,.slice B1 wJ wK,.slice B2 wL wM,.slice B3 wO wP,.int .i64 st],aI (.agg #[.int .i64 jI,.slice X1 xY xZ,.slice X2 x9 yg,.slice X3 yh yj,.int .i64 xt]) x,bP (.slice XA an xc) aw,ah g5 28 #[.int .i64 jI,.slice X1 xY xZ,.slice X2 x9 yg,.slice X3 yh yj,.int .i64 xt],ah g10 28 #[.int .i64 as0,.slice E1 Kq Kr,.slice E2 Kt Ku,.slice E3 Kv Kw,.int .i64 at0],aI (.agg #[.int .i64 as0,.slice E1 Kq Kr,.slice E2 Kt Ku,.slice E3 Kv Kw,.int .i64 at0]) ab,bP (.slice FA hf fc) f1]):=af uo;clear hR hD Ua uo
   go_upto_region 12 with(fail)
   refine kG (σ:=(((Option Addr×Nat×Nat)×(Option Addr×Nat×Nat)×(Option Addr×Nat×Nat))×(Option Addr×Nat))×Nat)
    (fun s i=>match i with
     |0=>.agg #[.int .i64 as0,.slice E1 Kq Kr,.slice E2 Kt Ku,.slice E3 Kv Kw,.int .i64 at0]
     |1=>.slice A4 an c4
     |2=>.int .i64 (hf:Int)
     |3=>.slice (QZ A4 c4 hf 1) sf (c4-hf)
     |4=>.tuple #[.agg #[.int .i64 jI,.slice s.1.1.1.1 s.1.1.1.2.1 s.1.1.1.2.2,.slice s.1.1.2.1.1 s.1.1.2.1.2.1 s.1.1.2.1.2.2,.slice s.1.1.2.2.1 s.1.1.2.2.2.1 s.1.1.2.2.2.2,.int .i64 xt],.slice s.1.2.1 sf s.1.2.2]
     |5=>.tuple #[.agg #[.int .i64 jI,.slice s.1.1.1.1 s.1.1.1.2.1 s.1.1.1.2.2,.slice s.1.1.2.1.1 s.1.1.2.1.2.1 s.1.1.2.1.2.2,.slice s.1.1.2.2.1 s.1.1.2.2.2.1 s.1.1.2.2.2.2,.int .i64 xt],.slice s.1.2.1 sf s.1.2.2]
     |6=>.agg #[.int .i64 jI,.slice s.1.1.1.1 s.1.1.1.2.1 s.1.1.1.2.2,.slice s.1.1.2.1.1 s.1.1.2.1.2.1 s.1.1.2.1.2.2,.slice s.1.1.2.2.1 s.1.1.2.2.2.1 s.1.1.2.2.2.2,.int .i64 xt]
     |7=>.slice s.1.2.1 sf s.1.2.2
     |8=>.pointer (some ⟨s.2,0,none⟩)
     |10=>.slice s.1.2.1 sf s.1.2.2
     |_=>undef)
    (fun D s wz=>Sn w wz fun i=>match i with
     |0=>some (aI (.agg #[.int .i64 os,.slice B1 wJ wK,.slice B2 wL wM,.slice B3 wO wP,.int .i64 st]) b)
     |1=>some (bP (.slice A4 an c4) ls)
     |2=>some (ah g3 28 #[.int .i64 os,.slice B1 wJ wK,.slice B2 wL wM,.slice B3 wO wP,.int .i64 st])
     |3=>some (aI (.agg #[.int .i64 jI,.slice X1 xY xZ,.slice X2 x9 yg,.slice X3 yh yj,.int .i64 xt]) x)
     |4=>some (bP (.slice XA an xc) aw)
     |5=>some (ah g5 28 #[.int .i64 jI,.slice X1 xY xZ,.slice X2 x9 yg,.slice X3 yh yj,.int .i64 xt])
     |6=>some (ah g10 28 #[.int .i64 as0,.slice E1 Kq Kr,.slice E2 Kt Ku,.slice E3 Kv Kw,.int .i64 at0])
     |7=>some (aI (.agg #[.int .i64 as0,.slice E1 Kq Kr,.slice E2 Kt Ku,.slice E3 Kv Kw,.int .i64 at0]) ab)
     |8=>some (bP (.slice FA hf fc) f1)
     |9=>if D 4=true then some (NM [aI (.agg #[.int .i64 jI,.slice s.1.1.1.1 s.1.1.1.2.1 s.1.1.1.2.2,.slice s.1.1.2.1.1 s.1.1.2.1.2.1 s.1.1.2.1.2.2,.slice s.1.1.2.2.1 s.1.1.2.2.2.1 s.1.1.2.2.2.2,.int .i64 xt]) x,bP (.slice s.1.2.1 sf s.1.2.2) f2]) else none
     |10=>if D 8=true then some (ah s.2 28 (if D 9=true then #[.int .i64 jI,.slice s.1.1.1.1 s.1.1.1.2.1 s.1.1.1.2.2,.slice s.1.1.2.1.1 s.1.1.2.1.2.1 s.1.1.2.1.2.2,.slice s.1.1.2.2.1 s.1.1.2.2.2.1 s.1.1.2.2.2.2,.int .i64 xt] else #[.int .i64 0,.slice none 0 0,.slice none 0 0,.slice none 0 0,.int .i64 0])) else none
     |_=>none)
    ((((none,0,0),(none,0,0),(none,0,0)),(none,0)),0) ?_ ?_ ?_
   ·intro D hD;refine((Sn.dN je.out).quiet ((ai _ _).drew)).congr fun i=>?_
    match i with
    |0 | 1 | 2 | 3 | 4 | 5 | 6 | 7 | 8=>rfl
    |9=>simp only[hD 4 (by decide)];rfl
    |10=>simp only[hD 8 (by decide)];rfl
    |q+11=>rfl
   ·refine Cs (fun D s wz hR _ hd _ _ hs K hK=>?_) ?_
    ·have e10:=hs.o 10 (.pointer (some ⟨g10,0,none⟩));clear hs;have qk:=(hR.blk 6 rfl).cell;go_simp;exact hK s wz sv hR
    refine Cs (fun D s wz hR _ hd _ _ hs K hK=>?_) ?_
    ·have e4:=hs.o 4 (.slice A4 an c4);clear hs;go_simp;exact hK s wz sv hR
    refine Cs (fun D s wz hR _ hd _ _ hs K hK=>?_) ?_
    ·have e9:=hs.o 9 (.int .i64 (hf:Int));clear hs;go_simp;exact hK s wz sv hR
    refine Cs (fun D s wz hR _ hd _ _ hs K hK=>?_) ?_
    ·have e80:=hs.v 1 80 hd;have e81:=hs.v 2 81 hd;clear hs;refine step_drop 43 (.tmp 80) (.tmp 81) rfl 1 (by kernel_rfl) P6 A4 an c4 hf e80 e81 (by omega) ?_;rw[hsf];exact hK s wz sv hR
    refine Cs (fun D s wz hR (hDi:D 4=false) hd hsh _ hs K hK=>?_) ?_
    ·have e79:=hs.v 0 79 hd;have e82:=hs.v 3 82 hd;have g79:=aX e79;have g82:=aX e82;clear hs;have n5:D 5=false:=hsh.no hDi 5 rfl ⟨4,.data⟩ (by simp) rfl rfl;have n6:D 6=false:=hsh.no n5 6 rfl ⟨5,.data⟩ (by simp) rfl rfl;have n7:D 7=false:=hsh.no n5 7 rfl ⟨5,.data⟩ (by simp) rfl rfl;have n9:D 9=false:=hsh.no n6 9 rfl ⟨6,.data⟩ (by simp) rfl rfl;have n10:D 10=false:=hsh.no n7 10 rfl ⟨7,.data⟩ (by simp) rfl rfl;go_simp;refine(zD _ ab x _ _ _ (ls.drop hf) f2 _ (hR.CX 7 rfl) (by have:=((hR.eG [1] (by decide) (L:=[bP (.slice A4 an c4) ls]) rfl).BM 0 rfl).abg ZG;rw[hsf] at this;exact this) (HE.out.up hR.below) (HP.out.up hR.below) P5.out HCB.out).mono ?_;rintro e2 w2 ⟨v2,va2,rfl,s2⟩;obtain⟨Q1,y1,z1,Q2,y2,z2,Q3,y3,z3,hv⟩:=s2.gU 0 rfl;obtain⟨QA,qc,hva,-⟩:=s2.oD 1 rfl;rw[Uh.out,Ui.out] at hv;rw[HF2.out] at hva;subst hv hva
     refine hK ((((Q1,y1,z1),(Q2,y2,z2),(Q3,y3,z3)),(QA,qc)),s.2) w2
      (fun j hj=>by
       match j,hj with
       |0,hj | 1,hj | 2,hj | 3,hj=>rfl
       |4,hj=>rw[hDi] at hj;cases hj
       |5,hj=>rw[n5] at hj;cases hj
       |6,hj=>rw[n6] at hj;cases hj
       |7,hj=>rw[n7] at hj;cases hj
       |8,hj=>rfl
       |9,hj=>rw[n9] at hj;cases hj
       |10,hj=>rw[n10] at hj;cases hj
       |_+11,hj=>rfl)
      ((hR.add 9 (if_neg (by rw[hDi];simp)) (St.pack (Rs:=[]) s2)).congr
       (fun i=>by
        match i with
        |0 | 1 | 2 | 3 | 4 | 5 | 6 | 7 | 8 | 9=>rfl
        |10=>(show(if D 8=true then some (ah _ _ (if D 9=true then _ else _)) else none)=(if D 8=true then some (ah _ _ (if D 9=true then _ else _)) else none);rw[n9]<;>rfl)
        |q+11=>exact(if_neg (show¬(q+11=9) by omega)).symm))
    refine Cs (fun D s wz hR _ hd _ _ hs K hK=>?_) ?_
    ·have e83:=hs.v 4 83 hd;clear hs;go_simp;exact hK s wz sv hR
    refine Cs (fun D s wz hR _ hd _ _ hs K hK=>?_) ?_
    ·have e78:=hs.v 5 78 hd;clear hs;go_simp;exact hK s wz sv hR
    refine Cs (fun D s wz hR _ hd _ _ hs K hK=>?_) ?_
    ·have e78:=hs.v 5 78 hd;clear hs;go_simp;exact hK s wz sv hR
    refine Cs (fun D s wz hR (hDi:D 8=false) hd hsh _ hs K hK=>?_) ?_
    ·clear hs;have n9:D 9=false:=hsh.no hDi 9 rfl ⟨8,.data⟩ (by simp) rfl rfl;go_simp
     refine hK (s.1,wz.heap.size) _
      (fun j hj=>by
       match j,hj with
       |0,hj | 1,hj | 2,hj | 3,hj | 4,hj | 5,hj | 6,hj | 7,hj=>rfl
       |8,hj=>rw[hDi] at hj;cases hj
       |9,hj | 10,hj=>rfl
       |_+11,hj=>rfl)
      ((hR.add 10 (if_neg (by rw[hDi];simp)) (St.new1 wz #[.int .i64 0,.slice none 0 0,.slice none 0 0,.slice none 0 0,.int .i64 0] 28)).congr
       (fun i=>by
        match i with
        |0 | 1 | 2 | 3 | 4 | 5 | 6 | 7 | 8 | 9=>rfl
        |10=>(show some (ah _ _ (if D 9=true then _ else _))=some (ah _ _ _);rw[n9]<;>rfl)
        |q+11=>exact(if_neg (show¬(q+11=10) by omega)).symm))
    refine Cs (fun D s wz hR (hDi:D 9=false) hd _ _ hs K hK=>?_) ?_
    ·have e12:=hs.v 8 12 hd;have e84:=hs.v 6 84 hd;clear hs;have d8:D 8=true:=hd ⟨8,.data⟩ (by simp) rfl;have kb:fU wz s.2 28 #[.int .i64 0,.slice none 0 0,.slice none 0 0,.slice none 0 0,.int .i64 0]:=hR.blk 10 (by simp only[d8,hDi]<;>rfl);have f0:=kb.frozen;have qk:=kb.cell;go_simp
     exact hK s _ sv ((hR.fF 10 (by simp only[d8,hDi];rfl) _ _ _ _ _).congr
      (fun i=>by
       match i with
       |0 | 1 | 2 | 3 | 4 | 5 | 6 | 7 | 8 | 9=>rfl
       |10=>(show(if D 8=true then some (ah _ _ _) else none)=some (ah _ _ _);rw[d8];rfl)
       |q+11=>exact(if_neg (show¬(q+11=10) by omega)).symm))
    refine Cs (fun D s wz hR _ hd _ _ hs K hK=>?_) ?_
    ·have e85:=hs.v 7 85 hd;clear hs;go_simp;exact hK s wz sv hR
    exact aj.nil
   ·intro D s wz hR hD;simp only[eH,Act.put,aO,aU,aW];have abh:=St.unpack (Rs:=[aI (.agg #[.int .i64 os,.slice B1 wJ wK,.slice B2 wL wM,.slice B3 wO wP,.int .i64 st]) b,bP (.slice A4 an c4) ls,ah g3 28 #[.int .i64 os,.slice B1 wJ wK,.slice B2 wL wM,.slice B3 wO wP,.int .i64 st],aI (.agg #[.int .i64 jI,.slice X1 xY xZ,.slice X2 x9 yg,.slice X3 yh yj,.int .i64 xt]) x,bP (.slice XA an xc) aw,ah g5 28 #[.int .i64 jI,.slice X1 xY xZ,.slice X2 x9 yg,.slice X3 yh yj,.int .i64 xt],ah g10 28 #[.int .i64 as0,.slice E1 Kq Kr,.slice E2 Kt Ku,.slice E3 Kv Kw,.int .i64 at0],aI (.agg #[.int .i64 as0,.slice E1 Kq Kr,.slice E2 Kt Ku,.slice E3 Kv Kw,.int .i64 at0]) ab,bP (.slice FA hf fc) f1,ah s.2 28 #[.int .i64 jI,.slice s.1.1.1.1 s.1.1.1.2.1 s.1.1.1.2.2,.slice s.1.1.2.1.1 s.1.1.2.1.2.1 s.1.1.2.1.2.2,.slice s.1.1.2.2.1 s.1.1.2.2.2.1 s.1.1.2.2.2.2,.int .i64 xt]]) (hR.eG [0,1,2,3,4,5,6,7,8,10,9] (L:=[aI (.agg #[.int .i64 os,.slice B1 wJ wK,.slice B2 wL wM,.slice B3 wO wP,.int .i64 st]) b,bP (.slice A4 an c4) ls,ah g3 28 #[.int .i64 os,.slice B1 wJ wK,.slice B2 wL wM,.slice B3 wO wP,.int .i64 st],aI (.agg #[.int .i64 jI,.slice X1 xY xZ,.slice X2 x9 yg,.slice X3 yh yj,.int .i64 xt]) x,bP (.slice XA an xc) aw,ah g5 28 #[.int .i64 jI,.slice X1 xY xZ,.slice X2 x9 yg,.slice X3 yh yj,.int .i64 xt],ah g10 28 #[.int .i64 as0,.slice E1 Kq Kr,.slice E2 Kt Ku,.slice E3 Kv Kw,.int .i64 at0],aI (.agg #[.int .i64 as0,.slice E1 Kq Kr,.slice E2 Kt Ku,.slice E3 Kv Kw,.int .i64 at0]) ab,bP (.slice FA hf fc) f1,ah s.2 28 #[.int .i64 jI,.slice s.1.1.1.1 s.1.1.1.2.1 s.1.1.1.2.2,.slice s.1.1.2.1.1 s.1.1.2.1.2.1 s.1.1.2.1.2.2,.slice s.1.1.2.2.1 s.1.1.2.2.2.1 s.1.1.2.2.2.2,.int .i64 xt],NM [aI (.agg #[.int .i64 jI,.slice s.1.1.1.1 s.1.1.1.2.1 s.1.1.1.2.2,.slice s.1.1.2.1.1 s.1.1.2.1.2.1 s.1.1.2.1.2.2,.slice s.1.1.2.2.1 s.1.1.2.2.2.1 s.1.1.2.2.2.2,.int .i64 xt]) x,bP (.slice s.1.2.1 sf s.1.2.2) f2]]) (by decide) (by simp only[List.map,hD 4 (by decide),hD 8 (by decide),hD 9 (by decide)]<;>rfl));obtain⟨⟨⟨⟨F1,Ym,Yn⟩,⟨F2,Yo,Yp⟩,⟨F3,Yq,Yr⟩⟩,⟨GA,gc⟩⟩,g12⟩:=s;have nJ:Hid (St w wz [aI (.agg #[.int .i64 os,.slice B1 wJ wK,.slice B2 wL wM,.slice B3 wO wP,.int .i64 st]) b,bP (.slice A4 an c4) ls,ah g3 28 #[.int .i64 os,.slice B1 wJ wK,.slice B2 wL wM,.slice B3 wO wP,.int .i64 st],aI (.agg #[.int .i64 jI,.slice X1 xY xZ,.slice X2 x9 yg,.slice X3 yh yj,.int .i64 xt]) x,bP (.slice XA an xc) aw,ah g5 28 #[.int .i64 jI,.slice X1 xY xZ,.slice X2 x9 yg,.slice X3 yh yj,.int .i64 xt],ah g10 28 #[.int .i64 as0,.slice E1 Kq Kr,.slice E2 Kt Ku,.slice E3 Kv Kw,.int .i64 at0],aI (.agg #[.int .i64 as0,.slice E1 Kq Kr,.slice E2 Kt Ku,.slice E3 Kv Kw,.int .i64 at0]) ab,bP (.slice FA hf fc) f1,ah g12 28 #[.int .i64 jI,.slice F1 Ym Yn,.slice F2 Yo Yp,.slice F3 Yq Yr,.int .i64 xt],aI (.agg #[.int .i64 jI,.slice F1 Ym Yn,.slice F2 Yo Yp,.slice F3 Yq Yr,.int .i64 xt]) x,bP (.slice GA sf gc) f2]):=af abh;clear hR hD je abh;go_wp2
    go_loopw [14] (fun i wr=>∃k:Nat,k≤an∧i= .int .i64 (k:Int)∧St w wr [aI (.agg #[.int .i64 os,.slice B1 wJ wK,.slice B2 wL wM,.slice B3 wO wP,.int .i64 st]) b,bP (.slice A4 an c4) ls,ah g3 28 #[.int .i64 os,.slice B1 wJ wK,.slice B2 wL wM,.slice B3 wO wP,.int .i64 st],aI (.agg #[.int .i64 jI,.slice X1 xY xZ,.slice X2 x9 yg,.slice X3 yh yj,.int .i64 xt]) x,bP (.slice XA an xc) aw,ah g5 28 #[.int .i64 jI,.slice X1 xY xZ,.slice X2 x9 yg,.slice X3 yh yj,.int .i64 xt],ah g10 28 #[.int .i64 as0,.slice E1 Kq Kr,.slice E2 Kt Ku,.slice E3 Kv Kw,.int .i64 at0],aI (.agg #[.int .i64 as0,.slice E1 Kq Kr,.slice E2 Kt Ku,.slice E3 Kv Kw,.int .i64 at0]) ab,bP (.slice FA hf fc) f1,ah g12 28 #[.int .i64 jI,.slice F1 Ym Yn,.slice F2 Yo Yp,.slice F3 Yq Yr,.int .i64 xt],aI (.agg #[.int .i64 jI,.slice F1 Ym Yn,.slice F2 Yo Yp,.slice F3 Yq Yr,.int .i64 xt]) x,bP (.slice GA sf gc) f2]) (fun i _=>an-(intOf i).toNat)
    case atStart=>exact⟨0,by omega,rfl,nJ.out⟩
    case round=>
     clear nJ;obtain⟨k,hk,rfl,hS⟩:=hrel;have HS:=af hS;clear hS
     by_cases hlt:k<an
     ·obtain⟨ab1,nK,rfl,aeU,hca⟩:=(HS.out.BM 4 rfl).at_ (by omega);obtain⟨l,hl⟩:∃l,aw[k]? =some l:=⟨aw[k]'(by rw[HAN.out];exact hlt),bH _⟩;have hne:=WJ.out l (bT hl);have ca:wr.cell? ⟨ab1,nK+k,none⟩=some (.string ⟨l.toArray⟩):=hca k _ (by unfold strs;rw[List.getElem?_map,hl];rfl);obtain⟨sl,hsl⟩:∃s,(⟨l.toArray⟩:ByteArray)=s:=⟨_,rfl⟩;have hz1:sl.toList≠[]:=by rw[←hsl,Lib.toList_data];exact hne
      have hz2:sl≠ByteArray.empty:=fun e=>hz1 (by rw[e,Lib.toList_data];rfl)
      have hz4:(sl.toList == [])=false:=beq_false_of_ne hz1
      have hz5:sl.toList.isEmpty=false:=by cases h:sl.toList with | nil=>exact absurd h hz1 | cons a r=>rfl
      rw[hsl] at ca;have Q5:Hid ((k:Int)<(an:Int)):=af (by omega);have hki:=Q5.out;clear hca hsl hl hne;go_wp2
      go_roundw
      case rel=>exact⟨k+1,by omega,by go_num,HS.out⟩
      case measure=>simp[intOf];omega
     ·obtain rfl:an=k:=by omega
      clear hlt hk;obtain⟨⟨eb,el⟩,hfe⟩:∃y,lQ x [102,105,110,105,115,104]=y:=⟨_,rfl⟩;have HFE:=Bx.mk hfe;obtain⟨pc,hpc⟩:∃y,(dG b.order).isSome=y:=⟨_,rfl⟩;have HPC:=Bx.mk hpc
      have hend:pc=true→fA eb=true:=fun h=>by
       have:=Ky adk.out (by rw[HXO.out,hpc];exact h)
       rw[show kC=[102,105,110,105,115,104] from rfl,hfe] at this;exact this
      have adn:=Bx.mk hend;obtain⟨es0,hes⟩:∃y,eb.order.start=y:=⟨_,rfl⟩;obtain⟨et,het⟩:∃y,eb.state=y:=⟨_,rfl⟩;have ZH:=Bx.mk hes;have HET:=Bx.mk het;clear hfe hpc hend hes het;have Iy:=HS.out.cells 2 rfl;have J8:=HS.out.cells 5 rfl;have Uj:=HS.out.cells 9 rfl
      go_wp2_with fail
      refine(CZ _ x eb [102,105,110,105,115,104] el _ (HS.out.CX 3 rfl) (HE.out.up HS.out.below) (HP.out.up HS.out.below) (by decide) HFE.out).mono ?_;rintro e w18 ⟨v18,rfl,s18⟩;obtain⟨G1,Gi1,Gj1,G2,Gi2,Gj2,G3,Gi3,Gj3,hv⟩:=s18.gU 0 rfl;rw[ZH.out,HET.out] at hv;subst hv;obtain⟨g15,abj⟩:∃y,w18.heap.size=y:=⟨_,rfl⟩;have NP:Hid (St w (w18.alloc (.cells #[.int .i64 es0,.slice G1 Gi1 Gj1,.slice G2 Gi2 Gj2,.slice G3 Gi3 Gj3,.int .i64 et] 28)) [aI (.agg #[.int .i64 os,.slice B1 wJ wK,.slice B2 wL wM,.slice B3 wO wP,.int .i64 st]) b,bP (.slice A4 an c4) ls,ah g3 28 #[.int .i64 os,.slice B1 wJ wK,.slice B2 wL wM,.slice B3 wO wP,.int .i64 st],aI (.agg #[.int .i64 jI,.slice X1 xY xZ,.slice X2 x9 yg,.slice X3 yh yj,.int .i64 xt]) x,bP (.slice XA an xc) aw,ah g5 28 #[.int .i64 jI,.slice X1 xY xZ,.slice X2 x9 yg,.slice X3 yh yj,.int .i64 xt],ah g10 28 #[.int .i64 as0,.slice E1 Kq Kr,.slice E2 Kt Ku,.slice E3 Kv Kw,.int .i64 at0],aI (.agg #[.int .i64 as0,.slice E1 Kq Kr,.slice E2 Kt Ku,.slice E3 Kv Kw,.int .i64 at0]) ab,bP (.slice FA hf fc) f1,ah g12 28 #[.int .i64 jI,.slice F1 Ym Yn,.slice F2 Yo Yp,.slice F3 Yq Yr,.int .i64 xt],aI (.agg #[.int .i64 jI,.slice F1 Ym Yn,.slice F2 Yo Yp,.slice F3 Yq Yr,.int .i64 xt]) x,bP (.slice GA sf gc) f2,aI (.agg #[.int .i64 es0,.slice G1 Gi1 Gj1,.slice G2 Gi2 Gj2,.slice G3 Gi3 Gj3,.int .i64 et]) eb,ah g15 28 #[.int .i64 es0,.slice G1 Gi1 Gj1,.slice G2 Gi2 Gj2,.slice G3 Gi3 Gj3,.int .i64 et]]):=af (by rw[←abj];exact(HS.out.call s18).alloc _ _);clear s18 HS Iy J8 Uj
      try rw[abj]
      have Iy:=NP.out.cells 2 rfl;have J8:=NP.out.cells 5 rfl;have Uj:=NP.out.cells 9 rfl;have Q7:=NP.out.cells 13 rfl
      go_wp2_with fail
      refine(o7 _ b.order _ ((NP.out.CX 0 rfl).order)).mono ?_;rw[HPC.out];rintro e w19 ⟨v19,rfl,s19⟩;obtain⟨A9,d9,rfl,-⟩:=s19.uj 0 rfl;have Kz:Hid (St w w19 [aI (.agg #[.int .i64 os,.slice B1 wJ wK,.slice B2 wL wM,.slice B3 wO wP,.int .i64 st]) b,bP (.slice A4 an c4) ls,ah g3 28 #[.int .i64 os,.slice B1 wJ wK,.slice B2 wL wM,.slice B3 wO wP,.int .i64 st],aI (.agg #[.int .i64 jI,.slice X1 xY xZ,.slice X2 x9 yg,.slice X3 yh yj,.int .i64 xt]) x,bP (.slice XA an xc) aw,ah g5 28 #[.int .i64 jI,.slice X1 xY xZ,.slice X2 x9 yg,.slice X3 yh yj,.int .i64 xt],ah g10 28 #[.int .i64 as0,.slice E1 Kq Kr,.slice E2 Kt Ku,.slice E3 Kv Kw,.int .i64 at0],aI (.agg #[.int .i64 as0,.slice E1 Kq Kr,.slice E2 Kt Ku,.slice E3 Kv Kw,.int .i64 at0]) ab,bP (.slice FA hf fc) f1,ah g12 28 #[.int .i64 jI,.slice F1 Ym Yn,.slice F2 Yo Yp,.slice F3 Yq Yr,.int .i64 xt],aI (.agg #[.int .i64 jI,.slice F1 Ym Yn,.slice F2 Yo Yp,.slice F3 Yq Yr,.int .i64 xt]) x,bP (.slice GA sf gc) f2,aI (.agg #[.int .i64 es0,.slice G1 Gi1 Gj1,.slice G2 Gi2 Gj2,.slice G3 Gi3 Gj3,.int .i64 et]) eb,ah g15 28 #[.int .i64 es0,.slice G1 Gi1 Gj1,.slice G2 Gi2 Gj2,.slice G3 Gi3 Gj3,.int .i64 et]]):=af ((NP.out.call s19).pick [0,1,2,3,4,5,6,7,8,9,10,11,12,13] (by decide) rfl rfl);clear s19 NP Iy J8 Uj Q7;have Iy:=Kz.out.cells 2 rfl;have J8:=Kz.out.cells 5 rfl;have Uj:=Kz.out.cells 9 rfl;have Q7:=Kz.out.cells 13 rfl
      go_wp2_with fail
      refine(rU _ x _ x _ (Kz.out.CX 10 rfl) (Kz.out.CX 3 rfl)).mono ?_;rw[decide_eq_true rfl];rintro e w20 ⟨rfl,Uk⟩;have abk:=af (Kz.out.quiet Uk);clear Uk Kz Iy J8 Uj Q7;have Q7:=abk.out.cells 13 rfl;have WL:=af (abk.out.call (St.Iz w20 _ rfl));have HO:=af (WL.out.row 14 rfl);have HR1:=af (WL.out.BM 8 rfl);have hsz:=WL.out.size;have HOC:∀(l:List (List UInt8)),∀u∈strs l,u.oneCell'=true:=fun l u hu=>by unfold strs at hu;obtain⟨z,-,rfl⟩:=List.mem_map.1 hu;rfl
      have ado:(0+hf)*16≤140737488355328:=by omega
      have adp:0+hf≤140737488355328:=by omega
      have adq:(0+hf+sf)*16≤140737488355328:=by omega
      have adr:0+hf+sf≤140737488355328:=by omega
      clear Q7
      go_wp2_with (first | (at_builtin;refine P7 AB (by rfl) (.tmp 112) (.tmp 113) rfl w.heap.size _ 0 (strs []) rfl HO.out _ FA hf fc (strs f1) rfl HR1.out (HOC _) ado adp hsz ?_;intro v9 w9 uq C9 Dc;have WM:=af (WL.out.app 14 rfl uq C9 Dc);have HO2:=af (WM.out.row 14 rfl);have HR2:=af (WM.out.BM 11 rfl);have hsz2:=WM.out.size;clear uq C9 Dc HO HR1) | (at_builtin;refine P7 AB (by rfl) (.tmp 114) (.tmp 115) rfl w.heap.size _ (0+hf) _ rfl HO2.out _ GA sf gc (strs f2) rfl HR2.out (HOC _) adq adr hsz2 ?_;intro va wa Yt abl abm;have WN:=af (WM.out.app 14 rfl Yt abl abm);obtain⟨ZA,zc,hza,hzr⟩:=WN.out.oD 14 rfl;subst hza;have HZR:=af hzr;clear Yt abl abm hzr HO2 HR2))
      refine(wQ _ _ _ aw _ _ _ aw _ (by have:=HZR.out;rw[show strs []++strs f1++strs f2=strs (f1++f2) from by rw[KA];rfl,adl.out,Nat.zero_add] at this;exact this) (WN.out.BM 4 rfl)).mono ?_;rw[decide_eq_true rfl];rintro e wb ⟨rfl,hbb⟩;have P8:=af (WN.out.quiet hbb);clear hbb WN;have Q7:=P8.out.cells 13 rfl
      cases pc with
      |false=>
       go_wp2;go_ret;exact⟨rfl,P8.out.below⟩
      |true=>
       go_wp2_with fail
       refine(uw _ eb _ (P8.out.CX 12 rfl)).mono ?_;rw[adn.out (by simp)];rintro e wc ⟨rfl,hbc⟩;have HSC:=af (P8.out.quiet hbc).below;clear hbc;go_wp2;go_ret;exact⟨rfl,HSC.out⟩
end Go.Proofs.YtkmcengmglgdeaaGreatDoor
