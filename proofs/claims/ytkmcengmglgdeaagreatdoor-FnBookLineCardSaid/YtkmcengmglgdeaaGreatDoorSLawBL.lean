/- A part of the proof: LawBL. -/
import Derived.Test.YtkmcengmglgdeaaGreatDoorSLate
import Derived.Test.YtkmcengmglgdeaaGreatDoorSLineD
import Derived.Test.YtkmcengmglgdeaaGreatDoorSTDraw2
import Derived.Test.YtkmcengmglgdeaaGreatDoorSPlanForS
namespace Go.Proofs.YtkmcengmglgdeaaGreatDoor
set_option linter.unusedVariables false
set_option linter.unusedSimpArgs false
set_option maxRecDepth 100000
set_option maxHeartbeats 8000000
open Go.ChangeShapes Go.WideShapes Go.ChangeAt Go.RowKit
theorem agj (v:Value) (b x:aG) (s ans:ByteArray) (w:World) (h:RdB w w.heap.size v b) (hs:s.size≤1048576) (hx:(lQ b s.data.toList).1=x) (ha:(⟨(lQ b s.data.toList).2.toArray⟩:ByteArray)=ans):
  Calls Tryz.prog 10 #[v,.string s] w (Gives w (fun v=>.tuple #[v,.string ans]) fun v=>[aI v x]):=by
 subst hx ha;exact FQ v b s w h (by omega)
theorem yc (v:Value) (b x:aG) (s ans:ByteArray) (w:World) (h:RdB w w.heap.size v b) (he:rQ w) (hp:lF w) (hs:s.size≤1048576) (hx:(lQ b s.data.toList).1=x) (ha:(⟨(lQ b s.data.toList).2.toArray⟩:ByteArray)=ans):
  Calls Tryz.prog 9 #[v,.string s] w (Gives w (fun v=>.tuple #[v,.string ans]) fun v=>[aI v x]):=by
 subst hx ha;exact FU v b s w h he hp (by omega)
theorem YA (A:Option Addr) (n c:Nat) (xs:List Int) (w:World) (h:jd .u8 w w.heap.size A n c xs) (he:rQ w) (hp:lF w):
  Calls Tryz.prog 3 #[.slice A n c] w fun e w'=>e= .returned (.bool true)∧Below w.heap.size w w':=by
 have hcap:=h.cap;have hmax:=h.dw
 unfold maxLen at hmax
 have H:=af h;have HE:=af he;have HP:=af hp;clear h he hp
 by_cases hn:n≤1048576
 case neg=>
  go_enter Tryz.func3,Tryz.ntmps3;go_wp2;go_ret;exact⟨rfl,ai _ _⟩
 go_enter Tryz.func3,Tryz.ntmps3
 go_wp2_with fail
 refine(af8 A n c xs _ H.out).mono ?_;rintro e w1 ⟨v1,b,s,rfl,hsz,s1⟩;have Zh:Hid (s.size≤1048576):=af (by omega);clear hsz;obtain⟨B1,wJ,wK,B2,wL,wM,B3,wO,wP,hv⟩:=s1.gU 0 rfl;obtain⟨os,hos⟩:∃x,b.order.start=x:=⟨_,rfl⟩;obtain⟨st,hst⟩:∃x,b.state=x:=⟨_,rfl⟩;have nP:=Bx.mk hos;have HST:=Bx.mk hst;rw[hos,hst] at hv;subst hv;obtain⟨g3,hg3⟩:∃x,w1.heap.size=x:=⟨_,rfl⟩;have bf:Hid (St w (w1.alloc (.cells #[.int .i64 os,.slice B1 wJ wK,.slice B2 wL wM,.slice B3 wO wP,.int .i64 st] 28)) [aI (.agg #[.int .i64 os,.slice B1 wJ wK,.slice B2 wL wM,.slice B3 wO wP,.int .i64 st]) b,ah g3 28 #[.int .i64 os,.slice B1 wJ wK,.slice B2 wL wM,.slice B3 wO wP,.int .i64 st]]):=af (by rw[←hg3];exact s1.alloc _ _);clear s1 hos hst
 try rw[hg3]
 obtain⟨x,hx⟩:∃x,(lQ b s.data.toList).1=x:=⟨_,rfl⟩;obtain⟨ans,hans⟩:∃y,(⟨(lQ b s.data.toList).2.toArray⟩:ByteArray)=y:=⟨_,rfl⟩;have HX:=Bx.mk hx;have Vz:=Bx.mk hans;obtain⟨jI,hxs⟩:∃y,x.order.start=y:=⟨_,rfl⟩;obtain⟨xt,hxt⟩:∃y,x.state=y:=⟨_,rfl⟩;have Uh:=Bx.mk hxs;have Ui:=Bx.mk hxt;clear hx hans hxs hxt;have Iy:=bf.out.cells 1 rfl
 go_wp2_with fail
 refine(yc _ b x s ans _ (bf.out.CX 0 rfl) (HE.out.up bf.out.below) (HP.out.up bf.out.below) Zh.out HX.out Vz.out).mono ?_;rintro e w2 ⟨vX,rfl,sX⟩;obtain⟨X1,xY,xZ,X2,x9,yg,X3,yh,yj,hv⟩:=sX.gU 0 rfl;rw[Uh.out,Ui.out] at hv;subst hv;obtain⟨g5,hg5⟩:∃y,w2.heap.size=y:=⟨_,rfl⟩;have HS2:Hid (St w (w2.alloc (.cells #[.int .i64 jI,.slice X1 xY xZ,.slice X2 x9 yg,.slice X3 yh yj,.int .i64 xt] 28)) [aI (.agg #[.int .i64 os,.slice B1 wJ wK,.slice B2 wL wM,.slice B3 wO wP,.int .i64 st]) b,ah g3 28 #[.int .i64 os,.slice B1 wJ wK,.slice B2 wL wM,.slice B3 wO wP,.int .i64 st],aI (.agg #[.int .i64 jI,.slice X1 xY xZ,.slice X2 x9 yg,.slice X3 yh yj,.int .i64 xt]) x,ah g5 28 #[.int .i64 jI,.slice X1 xY xZ,.slice X2 x9 yg,.slice X3 yh yj,.int .i64 xt]]):=af (by(try rw[←hg5]);exact((bf.out.call sX).alloc _ _).pick [0,1,2,3] (by decide) rfl rfl);clear sX bf Iy
 try rw[hg5]
 have Iy:=HS2.out.cells 1 rfl;have J8:=HS2.out.cells 3 rfl
 go_wp2_with fail
 refine(agj _ b x s ans _ (HS2.out.CX 0 rfl) Zh.out HX.out Vz.out).mono ?_;rintro e w3 ⟨vY,rfl,sY⟩;obtain⟨Y1,Yi1,Yj1,Y2,Yi2,Yj2,Y3,Yi3,Yj3,hv⟩:=sY.gU 0 rfl;rw[Uh.out,Ui.out] at hv;subst hv;obtain⟨g7,WB⟩:∃y,w3.heap.size=y:=⟨_,rfl⟩;have cu:Hid (St w (w3.alloc (.cells #[.int .i64 jI,.slice Y1 Yi1 Yj1,.slice Y2 Yi2 Yj2,.slice Y3 Yi3 Yj3,.int .i64 xt] 28)) [aI (.agg #[.int .i64 os,.slice B1 wJ wK,.slice B2 wL wM,.slice B3 wO wP,.int .i64 st]) b,ah g3 28 #[.int .i64 os,.slice B1 wJ wK,.slice B2 wL wM,.slice B3 wO wP,.int .i64 st],aI (.agg #[.int .i64 jI,.slice X1 xY xZ,.slice X2 x9 yg,.slice X3 yh yj,.int .i64 xt]) x,ah g5 28 #[.int .i64 jI,.slice X1 xY xZ,.slice X2 x9 yg,.slice X3 yh yj,.int .i64 xt],aI (.agg #[.int .i64 jI,.slice Y1 Yi1 Yj1,.slice Y2 Yi2 Yj2,.slice Y3 Yi3 Yj3,.int .i64 xt]) x,ah g7 28 #[.int .i64 jI,.slice Y1 Yi1 Yj1,.slice Y2 Yi2 Yj2,.slice Y3 Yi3 Yj3,.int .i64 xt]]):=af (by(try rw[←WB]);exact((HS2.out.call sY).alloc _ _).pick [0,1,2,3,4,5] (by decide) rfl rfl);clear sY HS2 Iy J8
 try rw[WB]
 have Iy:=cu.out.cells 1 rfl;have J8:=cu.out.cells 3 rfl;have qg7:=cu.out.cells 5 rfl
 go_wp2_with fail
 refine(rU _ x _ x _ (cu.out.CX 2 rfl) (cu.out.CX 4 rfl)).mono ?_;rw[decide_eq_true rfl];rintro e w4 ⟨rfl,Yj⟩;have fH:=af (cu.out.quiet Yj);clear Yj cu Iy J8 qg7;have Iy:=fH.out.cells 1 rfl;have J8:=fH.out.cells 3 rfl;obtain⟨bo,yt⟩:∃y,aN b=y:=⟨_,rfl⟩;have HBO:=Bx.mk yt;clear yt
 go_wp2_with fail
 refine(dM _ b _ (fH.out.CX 0 rfl)).mono ?_;rw[HBO.out];rintro e w5 ⟨rfl,Yk⟩;have dX:=af (fH.out.quiet Yk);clear Yk fH Iy J8;have Iy:=dX.out.cells 1 rfl;have J8:=dX.out.cells 3 rfl
 cases bo with
 |false=>
  have hsb:=LX (l:=s.data.toList) HBO.out;have hx0:x=oG:=by rw[←HX.out,hsb]
  have ha0:ans=⟨#[]⟩:=by rw[←Vz.out,hsb]
  subst ha0;have HX0:=Bx.mk hx0;clear hsb hx0
  go_wp2_with fail
  refine(CY _ x _ (dX.out.CX 2 rfl)).mono ?_;rw[decide_eq_true (show x=⟨⟨0,[],[]⟩,[],0⟩ from HX0.out)];rintro e w6 ⟨rfl,hb6⟩;have jB:=af (dX.out.quiet hb6);clear hb6 dX Iy J8
  go_wp2_with fail
  refine(alive_any _).mono ?_;rintro e w7 ⟨rfl,hb7⟩;have je:=af (jB.out.quiet hb7);clear hb7;go_wp2;go_ret;exact⟨rfl,je.out.below⟩
 |true=>
  have acy:Hid (St w w5 [aI (.agg #[.int .i64 os,.slice B1 wJ wK,.slice B2 wL wM,.slice B3 wO wP,.int .i64 st]) b,ah g3 28 #[.int .i64 os,.slice B1 wJ wK,.slice B2 wL wM,.slice B3 wO wP,.int .i64 st],aI (.agg #[.int .i64 jI,.slice X1 xY xZ,.slice X2 x9 yg,.slice X3 yh yj,.int .i64 xt]) x,ah g5 28 #[.int .i64 jI,.slice X1 xY xZ,.slice X2 x9 yg,.slice X3 yh yj,.int .i64 xt]]):=af (dX.out.pick [0,1,2,3] (by decide) rfl rfl);clear dX;obtain⟨hok1,-,agr⟩:=QU s.data.toList HBO.out;rw[HX.out] at hok1 agr;have adk:=Bx.mk hok1;have rC:=Bx.mk (aga HBO.out);have HPR:=Bx.mk (agb HBO.out);have HCK:=Bx.mk (agc HBO.out);have hbp:=bF HBO.out;have hps:=QA (fZ hbp.1 hbp.2.2.1);obtain⟨pt,hpt⟩:∃y,(⟨(jq (dD b)).toArray⟩:ByteArray)=y:=⟨_,rfl⟩;have HPT:=Bx.mk hpt;have hpz:pt.size≤200:=by rw[←hpt];show(jq (dD b)).toArray.size≤_;rw[List.size_toArray];exact hps
  have hpd:pt.data.toList=jq (dD b):=by rw[←hpt]
  have agx:¬9223372036854775807<6+pt.size:=by omega
  obtain⟨ck,hck⟩:∃y,(⟨#[99,104,101,99,107,32]⟩++pt:ByteArray)=y:=⟨_,rfl⟩;have ags:ck.data.toList=qm++jq (dD b):=by rw[←hck,←hpt,show(⟨#[99,104,101,99,107,32]⟩:ByteArray)=⟨qm.toArray⟩ from rfl,iV]
  have HCZ:Hid (ck.size≤1048576):=af (by rw[←hck,ByteArray.size_append];show 6+pt.size≤_;omega);have agz:=Bx.mk ags;have agy:=Bx.mk hck;obtain⟨cs,hcs⟩:∃y,(dB b).isSome=y:=⟨_,rfl⟩;have HCS:=Bx.mk hcs;obtain⟨bc,hbc⟩:∃y,(lQ b ck.data.toList).1=y:=⟨_,rfl⟩;have HBC:=Bx.mk hbc;obtain⟨cw,hcw⟩:∃y,(⟨(if cs then acY else QT).toArray⟩:ByteArray)=y:=⟨_,rfl⟩;have HCW:=Bx.mk hcw;have HVW:Bx ((⟨(lQ b ck.data.toList).2.toArray⟩:ByteArray)=cw):=Bx.mk (by rw[ags,HCK.out,hcs,hcw]);obtain⟨cs0,hcs0⟩:∃y,bc.order.start=y:=⟨_,rfl⟩;obtain⟨cst,agt⟩:∃y,bc.state=y:=⟨_,rfl⟩;have ZC:=Bx.mk hcs0;have HC1:=Bx.mk agt;obtain⟨dk,hdk⟩:∃y,(ans.toList == [111,107])=y:=⟨_,rfl⟩
  have P8:Hid (dk=false→x=b):=af (fun h=>agr.resolve_left (fun e=>by
   rw[h,←Vz.out,Lib.toList_data,e] at hdk
   cases hdk))
  clear hcw hok1 agr hbp hps hpt hpz hpd hck ags hcs hbc hcs0 agt
  go_wp2_with fail
  refine(yc _ b b ⟨#[32]⟩ ⟨Ep.toArray⟩ _ (acy.out.CX 0 rfl) (HE.out.up acy.out.below) (HP.out.up acy.out.below) (by decide) (congrArg Prod.fst rC.out) (by rw[show(⟨#[32]⟩:ByteArray).data.toList=[32] from rfl,rC.out])).mono ?_;rintro e w6 ⟨vZ,rfl,sZ⟩;obtain⟨Z1,Zi1,Zj1,Z2,Zi2,Zj2,Z3,Zi3,Zj3,hv⟩:=sZ.gU 0 rfl;rw[nP.out,HST.out] at hv;subst hv;obtain⟨g9,WC⟩:∃y,w6.heap.size=y:=⟨_,rfl⟩;have jB:Hid (St w (w6.alloc (.cells #[.int .i64 os,.slice Z1 Zi1 Zj1,.slice Z2 Zi2 Zj2,.slice Z3 Zi3 Zj3,.int .i64 st] 28)) [aI (.agg #[.int .i64 os,.slice B1 wJ wK,.slice B2 wL wM,.slice B3 wO wP,.int .i64 st]) b,ah g3 28 #[.int .i64 os,.slice B1 wJ wK,.slice B2 wL wM,.slice B3 wO wP,.int .i64 st],aI (.agg #[.int .i64 jI,.slice X1 xY xZ,.slice X2 x9 yg,.slice X3 yh yj,.int .i64 xt]) x,ah g5 28 #[.int .i64 jI,.slice X1 xY xZ,.slice X2 x9 yg,.slice X3 yh yj,.int .i64 xt],aI (.agg #[.int .i64 os,.slice Z1 Zi1 Zj1,.slice Z2 Zi2 Zj2,.slice Z3 Zi3 Zj3,.int .i64 st]) b,ah g9 28 #[.int .i64 os,.slice Z1 Zi1 Zj1,.slice Z2 Zi2 Zj2,.slice Z3 Zi3 Zj3,.int .i64 st]]):=af (by(try rw[←WC]);exact((acy.out.call sZ).alloc _ _).pick [0,1,2,3,4,5] (by decide) rfl rfl);clear sZ acy Iy J8
  try rw[WC]
  have Iy:=jB.out.cells 1 rfl
  go_wp2_with fail
  refine(yc _ b b ⟨#[112,114,111,111,102]⟩ pt _ (jB.out.CX 0 rfl) (HE.out.up jB.out.below) (HP.out.up jB.out.below) (by decide) (congrArg Prod.fst HPR.out) (by rw[←HPT.out];exact congrArg (fun l=>(⟨List.toArray l⟩:ByteArray)) (congrArg Prod.snd HPR.out))).mono ?_;rintro e w7 ⟨vP,rfl,sP⟩;obtain⟨P1,Pi1,Pj1,P2,Pi2,Pj2,P3,Pi3,Pj3,hv⟩:=sP.gU 0 rfl;rw[nP.out,HST.out] at hv;subst hv;obtain⟨g11,agu⟩:∃y,w7.heap.size=y:=⟨_,rfl⟩;have je:Hid (St w (w7.alloc (.cells #[.int .i64 os,.slice P1 Pi1 Pj1,.slice P2 Pi2 Pj2,.slice P3 Pi3 Pj3,.int .i64 st] 28)) [aI (.agg #[.int .i64 os,.slice B1 wJ wK,.slice B2 wL wM,.slice B3 wO wP,.int .i64 st]) b,ah g3 28 #[.int .i64 os,.slice B1 wJ wK,.slice B2 wL wM,.slice B3 wO wP,.int .i64 st],aI (.agg #[.int .i64 jI,.slice X1 xY xZ,.slice X2 x9 yg,.slice X3 yh yj,.int .i64 xt]) x,ah g5 28 #[.int .i64 jI,.slice X1 xY xZ,.slice X2 x9 yg,.slice X3 yh yj,.int .i64 xt],aI (.agg #[.int .i64 os,.slice Z1 Zi1 Zj1,.slice Z2 Zi2 Zj2,.slice Z3 Zi3 Zj3,.int .i64 st]) b,ah g9 28 #[.int .i64 os,.slice Z1 Zi1 Zj1,.slice Z2 Zi2 Zj2,.slice Z3 Zi3 Zj3,.int .i64 st]]):=af (by(try rw[←agu]);exact((jB.out.call sP).alloc _ _).pick [0,1,2,3,4,5] (by decide) rfl rfl);clear sP jB Iy
  try rw[agu]
  have Iy:=je.out.cells 1 rfl
  go_wp2_with fail
  rw[agy.out];clear agx;refine(yc _ b bc ck _ _ (je.out.CX 0 rfl) (HE.out.up je.out.below) (HP.out.up je.out.below) HCZ.out HBC.out HVW.out).mono ?_;rintro e w8 ⟨vV,rfl,sV⟩;obtain⟨V1,Vi1,Vj1,V2,Vi2,Vj2,V3,Vi3,Vj3,hv⟩:=sV.gU 0 rfl;rw[ZC.out,HC1.out] at hv;subst hv;obtain⟨g13,agv⟩:∃y,w8.heap.size=y:=⟨_,rfl⟩;have nJ:Hid (St w (w8.alloc (.cells #[.int .i64 cs0,.slice V1 Vi1 Vj1,.slice V2 Vi2 Vj2,.slice V3 Vi3 Vj3,.int .i64 cst] 28)) [aI (.agg #[.int .i64 os,.slice B1 wJ wK,.slice B2 wL wM,.slice B3 wO wP,.int .i64 st]) b,ah g3 28 #[.int .i64 os,.slice B1 wJ wK,.slice B2 wL wM,.slice B3 wO wP,.int .i64 st],aI (.agg #[.int .i64 jI,.slice X1 xY xZ,.slice X2 x9 yg,.slice X3 yh yj,.int .i64 xt]) x,ah g5 28 #[.int .i64 jI,.slice X1 xY xZ,.slice X2 x9 yg,.slice X3 yh yj,.int .i64 xt],aI (.agg #[.int .i64 os,.slice Z1 Zi1 Zj1,.slice Z2 Zi2 Zj2,.slice Z3 Zi3 Zj3,.int .i64 st]) b,ah g9 28 #[.int .i64 os,.slice Z1 Zi1 Zj1,.slice Z2 Zi2 Zj2,.slice Z3 Zi3 Zj3,.int .i64 st]]):=af (by(try rw[←agv]);exact((je.out.call sV).alloc _ _).pick [0,1,2,3,4,5] (by decide) rfl rfl);clear sV je Iy
  try rw[agv]
  have Iy:=nJ.out.cells 1 rfl
  go_wp2_with fail
  refine(sJ _ b _ (nJ.out.CX 0 rfl)).mono ?_;rw[HCS.out];rintro e w9 ⟨v9,rfl,s9⟩;obtain⟨A9,d9,rfl,-⟩:=s9.uj 0 rfl;have fP:Hid (St w w9 [aI (.agg #[.int .i64 os,.slice B1 wJ wK,.slice B2 wL wM,.slice B3 wO wP,.int .i64 st]) b,ah g3 28 #[.int .i64 os,.slice B1 wJ wK,.slice B2 wL wM,.slice B3 wO wP,.int .i64 st],aI (.agg #[.int .i64 jI,.slice X1 xY xZ,.slice X2 x9 yg,.slice X3 yh yj,.int .i64 xt]) x,ah g5 28 #[.int .i64 jI,.slice X1 xY xZ,.slice X2 x9 yg,.slice X3 yh yj,.int .i64 xt],aI (.agg #[.int .i64 os,.slice Z1 Zi1 Zj1,.slice Z2 Zi2 Zj2,.slice Z3 Zi3 Zj3,.int .i64 st]) b,ah g9 28 #[.int .i64 os,.slice Z1 Zi1 Zj1,.slice Z2 Zi2 Zj2,.slice Z3 Zi3 Zj3,.int .i64 st]]):=af ((nJ.out.call s9).pick [0,1,2,3,4,5] (by decide) rfl rfl);clear s9 nJ Iy;have Iy:=fP.out.cells 1 rfl;have J8:=fP.out.cells 3 rfl;have qg9:=fP.out.cells 5 rfl
  go_wp2_with fail
  refine(dF _ x _ (fP.out.CX 2 rfl)).mono ?_;rw[adk.out];rintro e wa ⟨rfl,hba⟩;have HSa:=af (fP.out.quiet hba);clear hba fP Iy J8 qg9;have Iy:=HSa.out.cells 1 rfl;have J8:=HSa.out.cells 3 rfl;have qg9:=HSa.out.cells 5 rfl
  cases dk with
  |true=>
   go_wp2_with fail
   refine(rU _ b _ b _ (HSa.out.CX 4 rfl) (HSa.out.CX 0 rfl)).mono ?_;rw[decide_eq_true rfl];rintro e wb ⟨rfl,hbz⟩;have HSz:=af (HSa.out.quiet hbz);clear hbz
   cases cs with
   |true=>
    obtain rfl:(⟨#[99,97,110]⟩:ByteArray)=cw:=HCW.out;go_wp2;go_ret;exact⟨rfl,HSz.out.below⟩
   |false=>
    obtain rfl:(⟨#[99,97,110,110,111,116]⟩:ByteArray)=cw:=HCW.out;go_wp2;go_ret;exact⟨rfl,HSz.out.below⟩
  |false=>
   go_wp2_with fail
   refine(rU _ x _ b _ (HSa.out.CX 2 rfl) (HSa.out.CX 0 rfl)).mono ?_;rw[decide_eq_true (P8.out (by simp))];rintro e wb ⟨rfl,hbb⟩;have HSb:=af (HSa.out.quiet hbb);clear hbb HSa Iy J8 qg9;have Iy:=HSb.out.cells 1 rfl;have J8:=HSb.out.cells 3 rfl;have qg9:=HSb.out.cells 5 rfl
   go_wp2_with fail
   refine(rU _ b _ b _ (HSb.out.CX 4 rfl) (HSb.out.CX 0 rfl)).mono ?_;rw[decide_eq_true rfl];rintro e wc ⟨rfl,hbz⟩;have HSz:=af (HSb.out.quiet hbz);clear hbz
   cases cs with
   |true=>
    obtain rfl:(⟨#[99,97,110]⟩:ByteArray)=cw:=HCW.out;go_wp2;go_ret;exact⟨rfl,HSz.out.below⟩
   |false=>
    obtain rfl:(⟨#[99,97,110,110,111,116]⟩:ByteArray)=cw:=HCW.out;go_wp2;go_ret;exact⟨rfl,HSz.out.below⟩
end Go.Proofs.YtkmcengmglgdeaaGreatDoor
