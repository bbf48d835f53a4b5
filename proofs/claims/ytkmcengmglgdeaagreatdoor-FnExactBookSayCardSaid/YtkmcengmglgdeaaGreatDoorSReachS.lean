/- Joined texts: ReachS, ProofT. -/
import Derived.Test.YtkmcengmglgdeaaGreatDoorSDraw
import Derived.Test.YtkmcengmglgdeaaGreatDoorSSumW
import Derived.Test.YtkmcengmglgdeaaGreatDoorSCondW
import Derived.Test.YtkmcengmglgdeaaGreatDoorSCondS
import Derived.Test.YtkmcengmglgdeaaGreatDoorSTaskTS
import Derived.Test.YtkmcengmglgdeaaGreatDoorSActsH
import Derived.Test.YtkmcengmglgdeaaGreatDoorSPlanForW
import Derived.Test.YtkmcengmglgdeaaGreatDoorSPlanForS

namespace Go.Proofs.YtkmcengmglgdeaaGreatDoor
set_option linter.unusedVariables false
set_option linter.unusedSimpArgs false
set_option maxRecDepth 100000
set_option maxHeartbeats 8000000
open Go.ChangeShapes Go.WideShapes Go.ChangeAt Go.RowKit
theorem Jj (v:Value) (t:aB) (w:World) (h:nI w w.heap.size v t) (hok:aK t=true):
  Calls Tryz.prog 106 #[v] w fun e w'=>e= .returned (.int .i64 (aN (lG t.ax (only t.start.toNat) 32) 32:Nat))∧Below w.heap.size w w':=by
 have h':=h;obtain⟨G,gn,gc,G',n',c',rfl,hg,hgs,hds,hst⟩:=h;have HT:=af h';have bC:=af hok;have aQ:=af ((St.refl w).alloc #[.int .i64 t.start,.slice G gn gc,.slice G' n' c'] 26);have pK:=(aJ t hok).1;obtain⟨st,hst'⟩:∃x,t.start=x:=⟨_,rfl⟩;rw[hst'] at pK HT aQ ⊢
 obtain⟨s0,rfl⟩:=bI pK.1;have lQ:s0<32:=by omega
 rw[dD];have Z4:=lg s0 (by omega);have Z5:IntKind.i64.wrap ((2:Int)^s0)=2^s0:=IntWalk.i64_in _ (by have:=oO s0 31 (by omega);have:(0:Int)<2^s0:=Int.pow_pos (by omega);omega);obtain⟨R,hR⟩:∃R,aN (lG t.ax (only s0) 32) 32=R:=⟨_,rfl⟩;have HR:=Bx.mk hR;rw[hR]
 have hP0:(2:Int)^s0=((aN (lG t.ax (only s0) 0) 32:Nat):Int):=by
  rw[show aN (lG t.ax (only s0) 0) 32=aN (only s0) 32 from rfl,Gp lQ];simp
 have HP0:=af hP0;clear h' hg hgs hds hst hok hst' pK hR hP0;go_enter Tryz.func106,Tryz.ntmps106
 go_wp2_with fail
 refine(bP _ t _ (HT.out.up aQ.out.below)).mono ?_;rw[bC.out];rintro e w1 ⟨rfl,hb1⟩;have bG:=af (aQ.out.quiet hb1);clear hb1 aQ;have q1:=bG.out.cells 0 rfl;go_wp2
 try rw[HP0.out]
 clear Z4 Z5
 go_loopw [3] (fun sv wr=>∃m M:Nat,m≤32∧sv= .int .i64 M∧Bx (M=aN (lG t.ax (only s0) m) 32)∧Bx (m≤cnt (lG t.ax (only s0) m) 32)∧M<4294967296∧St w wr [ah w.heap.size 26 #[.int .i64 (s0:Int),.slice G gn gc,.slice G' n' c']]) (fun sv _=>4294967296-(intOf sv).toNat)
 case atStart=>exact⟨0,_,by omega,rfl,Bx.mk rfl,Bx.mk (Nat.zero_le _),cZ _,bG.out⟩
 case round=>
  clear bG q1;obtain⟨m,M,hm,rfl,HM,HC,hM,S⟩:=hrel;have HS:=af S;clear S;have q1:=HS.out.cells 0 rfl
  go_wp2_with fail
  refine(sU _ t M _ (HT.out.up HS.out.below) bC.out hM).mono ?_;obtain⟨N,hN⟩:∃N,aN (kV t.ax (fD M)) 32=N:=⟨_,rfl⟩;have hNl:N<4294967296:=by rw[←hN];exact cZ _
  obtain⟨M2,hM2⟩:∃M2,aN (lG t.ax (only s0) (m+1)) 32=M2:=⟨_,rfl⟩;have XY:Bx (M ||| N=M2):=Bx.mk (by rw[←hM2,←hN,HM.out,PU,Bq];rfl);have hle:M≤M2:=by rw[←hM2,HM.out];exact Va
  have Z7:M2<4294967296:=by rw[←hM2];exact cZ _
  have gY:=Bx.mk hM2;rw[hN];rintro e w3 ⟨rfl,hb3⟩;have dV:=af (HS.out.quiet hb3);clear hb3 hN hM2 q1
  go_wp2_with fail
  refine(nZ (M:Int) (N:Int) (by omega) (by omega) (by omega) (by omega) _).mono ?_;rw[dD,dD,XY.out];rintro e w4 ⟨rfl,rfl⟩
  by_cases he:M2=M
  ·have HF:Bx (M=R):=Bx.mk (by
    rw[←HR.out,HM.out]
    exact PS hm (by rw[gY.out,←HM.out];exact he))
   subst he;go_wp2;go_ret;exact⟨aG (by rw[HF.out]),dV.out.below⟩
  ·have hne:((M2:Int) == (M:Int))=false:=by simp;omega
   have HC2:Bx (m+1≤cnt (lG t.ax (only s0) (m+1)) 32):=Bx.mk (Le (by rw[gY.out,←HM.out];exact he) HC.out);have hm2:m+1≤32:=by have:=cnt_le (lG t.ax (only s0) (m+1)) 32;have:=HC2.out;omega
   have hlt:M<M2:=by omega
   clear he hle;go_wp2
   go_roundw
   case rel=>exact⟨m+1,M2,hm2,rfl,Bx.mk gY.out.symm,HC2,Z7,dV.out⟩
   case measure=>simp[intOf];omega
theorem GY:mX []=kP:=by simp[mX]
theorem Eh {p:List Int} {k:Nat} {x:Int} (h:p[k]? =some x):mX (p.take (k+1))=mX (p.take k)++32::iY x.toNat:=by
 unfold mX
 rw[List.take_add_one,h]
 simp
theorem GZ {p:List Int} (h:∀x∈p,0≤x∧x<6):(mX p).length≤4+3*p.length:=by
 unfold mX
 rw[bK]
 have:(p.flatMap fun k=>32::iY k.toNat).length≤3*p.length:=by
  induction p with
  |nil=>simp
  |cons z p ih=>
   have h3:=pz 1 z.toNat (by have:=h z (List.mem_cons_self ..);omega)
   have:=ih fun x hx=>h x (List.mem_cons_of_mem _ hx)
   simp only[List.flatMap_cons,bK,bM];omega
 have e:kP.length=4:=rfl
 omega
theorem AB {t:aB} {p:List Int} (hok:aK t=true) (h:dK t=some p):jC t=mX p:=by unfold jC;rw[if_pos hok,h]
theorem Ei {t:aB} {f:Nat} (hok:aK t=true) (h:dK t=none) (hs:kW t=some f):jC t=sumW++32::fP f:=by unfold jC;rw[if_pos hok,h,hs]
theorem wz {t:aB} (hok:aK t=true) (h:dK t=none) (hs:kW t=none):jC t=ji++32::iY (aN (lG t.ax (only t.start.toNat) 32) 32):=by unfold jC;rw[if_pos hok,h,hs]
theorem P6 (l:List UInt8):(⟨#[115,117,109,32]⟩++⟨l.toArray⟩:ByteArray)=⟨(sumW++32::l).toArray⟩:=by
 rw[show(⟨#[115,117,109,32]⟩:ByteArray)=⟨[115,117,109,32].toArray⟩ from rfl,iw];rfl
theorem Ej (l:List UInt8):(⟨#[99,108,111,115,101,100,32]⟩++⟨l.toArray⟩:ByteArray)=⟨(ji++32::l).toArray⟩:=by
 rw[show(⟨#[99,108,111,115,101,100,32]⟩:ByteArray)=⟨[99,108,111,115,101,100,32].toArray⟩ from rfl,iw];rfl
theorem G5 {t:aB} {f:Nat} (h:kW t=some f):f<32:=by simpa using List.mem_of_find?_eq_some h
theorem DF (v:Value) (t:aB) (w:World) (h:nI w w.heap.size v t) (hok:aK t=true) (hp:kR w):
  Calls Tryz.prog 117 #[v] w fun e w'=>e= .returned (.string ⟨(jC t).toArray⟩)∧Below w.heap.size w w':=by
 have h':=h;obtain⟨G,gn,gc,G',n',c',rfl,hg,hgs,hds,hst⟩:=h;have aQ:=af ((St.refl w).alloc #[.int .i64 t.start,.slice G gn gc,.slice G' n' c'] 26);have HT:=af h';have bC:=af hok;have Xa:=af hp;obtain⟨o,ho⟩:∃o,dK t=o:=⟨_,rfl⟩;have HO:=Bx.mk ho;clear h' hg hds hst hok ho hp;go_enter Tryz.func117,Tryz.ntmps117
 go_wp2_with fail
 refine(bV _ t _ (HT.out.up aQ.out.below)).mono ?_;rw[bC.out];rintro e w1 ⟨rfl,hb1⟩;have bG:=af (aQ.out.quiet hb1);clear hb1 aQ;have q1:=bG.out.cells 0 rfl
 go_wp2_with fail
 refine(rM _ t _ (HT.out.up bG.out.below)).mono ?_;rw[HO.out];rintro e w2 ⟨v2,rfl,s2⟩;obtain⟨PA,pc,hv2,hrd⟩:=s2.xq 0 rfl;subst hv2;have HS2:=af (bG.out.quiet s2.below);have AZ:=af hrd;clear s2 hrd bG q1;have q2:=HS2.out.cells 0 rfl
 cases o with
 |some p=>
  simp only[Option.getD_some,Option.isSome_some] at AZ ⊢
  have Uc:=af (vZ HO.out);have aas:p.length≤31:=(qi HO.out).1;have HPT:=Bx.mk (AB bC.out HO.out);obtain⟨n,hn⟩:∃n,p.length=n:=⟨_,rfl⟩;rw[hn] at AZ aas ⊢
  have HN:=af hn;obtain⟨b,hb⟩:∃b,w2.heap.size=b:=⟨_,rfl⟩;have HT0:Hid (TS w2 b [] [] (w2.alloc (.cells #[.pointer none,.slice none 0 0] 117))):=af (by rw[←hb];exact TS.ab9 w2);have HB2:=af HS2.out.below;clear hn HS2
  go_wp2_with fail
  try rw[hb]
  refine(HT0.out.ws _ kP rfl (by decide)).mono ?_;rintro e w3 ⟨rfl,h3⟩;have HT3:Hid (TS w2 b (mX (p.take 0)) [] w3):=af (by rw[List.take_zero,GY];exact h3);clear h3 HT0 hb q2;go_wp2
  go_loopw [22] (fun i wr=>∃k:Nat,k≤n∧i= .int .i64 (k:Int)∧Hid (TS w2 b (mX (p.take k)) [] wr)) (fun i _=>n-(intOf i).toNat)
  case atStart=>exact⟨0,by omega,rfl,HT3⟩
  case round=>
   clear HT3;obtain⟨k,hk,rfl,HTB⟩:=hrel
   by_cases hlt:k<n
   ·obtain⟨db,off,x,rfl,hdb,hxx,hw,hc⟩:=(AZ.out.up HTB.out.below).get hlt;have hxm:=Uc.out x (bU hxx);obtain⟨x,rfl⟩:=bI hxm.1;have yD:x<100:=by omega
    have HZ:=af (show(mX (p.take k)).length≤200 by
     have h1:=GZ (p:=p.take k) fun x hx=>Uc.out x (List.mem_of_mem_take hx)
     have:(p.take k).length≤k:=List.length_take_le _ _
     omega)
    have JS:=af (ku x).2;have yN:Hid (mX (p.take (k+1))=mX (p.take k)++32::gZ x):=af (by rw[Eh hxx,dD,yc yD]);clear hw hxx hxm hdb
    go_wp2_with fail
    refine(HTB.out.wb 32 (by have:=HZ.out;omega)).mono ?_;rintro e w4 ⟨rfl,h4⟩;have HT4:=af h4;clear h4 hc
    go_wp2_with fail
    refine(pG x yD _).mono ?_;rintro e w5 ⟨rfl,rfl⟩
    go_wp2_with fail
    refine(HT4.out.ws _ (gZ x) rfl (by have:=HZ.out;have:=JS.out;simp only[bK,bM,List.length_nil];omega)).mono ?_;rintro e w6 ⟨rfl,h6⟩;have Xz:Hid (TS w2 b (mX (p.take (k+1))) [] w6):=af (by rw[yN.out];simpa using h6);clear h6 HT4 HTB;go_wp2
    go_roundw
    case rel=>exact⟨k+1,by omega,by go_num,Xz⟩
    case measure=>simp[intOf];omega
   ·have hke:k=n:=by omega
    have HE:Hid (jC t=mX (p.take k)):=af (by rw[HPT.out,hke,←HN.out,List.take_length]);clear hke
    go_wp2_with fail
    refine HTB.out.done.mono ?_;rintro e w4 ⟨rfl,hb4⟩;have HB:=af (HB2.out.trans (hb4.mono HB2.out.size));clear hb4;go_wp2;go_ret;exact⟨dh (by rw[HE.out]),HB.out⟩
 |none=>
  simp only[Option.getD_none,Option.isSome_none] at AZ ⊢
  obtain⟨u,hu⟩:∃u,kW t=u:=⟨_,rfl⟩;have HU:=Bx.mk hu;clear hu AZ
  go_wp2_with fail
  refine(LD _ t _ (HT.out.up HS2.out.below) bC.out).mono ?_;rw[HU.out];rintro e w3 ⟨rfl,hb3⟩;have dV:=af (HS2.out.quiet hb3);clear hb3 q2 HS2;have q3:=dV.out.cells 0 rfl
  cases u with
  |some f=>
   simp only[Option.isSome_some,opt];have aat:=G5 HU.out;obtain⟨SF,Ji⟩:∃x:ByteArray,(⟨(fP f).toArray⟩:ByteArray)=x:=⟨_,rfl⟩;have hz:¬9223372036854775807<4+SF.size:=by rw[←Ji,ja];have:=iy f;omega
   have HV:Hid (⟨#[115,117,109,32]⟩++SF=⟨(jC t).toArray⟩):=af (by rw[Ei bC.out HO.out HU.out,←Ji];exact P6 _);have HSF:=Bx.mk Ji;clear Ji
   go_wp2_with fail
   refine(iG f aat _).mono ?_;rw[HSF.out];rintro e w4 ⟨rfl,hb4⟩;have HB:=af (dV.out.quiet hb4).below;clear hb4;go_wp2;go_ret;exact⟨dh HV.out,HB.out⟩
  |none=>
   simp only[Option.isSome_none,opt];obtain⟨R,hR⟩:∃R,aN (lG t.ax (only t.start.toNat) 32) 32=R:=⟨_,rfl⟩;have hRl:R<4294967296:=by rw[←hR];exact cZ _
   have HRC:Hid (reached t=(R:Int)):=af (by unfold reached;rw[if_pos bC.out,hR]);obtain⟨SF,Ji⟩:∃x:ByteArray,(⟨(iY R).toArray⟩:ByteArray)=x:=⟨_,rfl⟩;have hz:¬9223372036854775807<7+SF.size:=by rw[←Ji,ja];have:=pz 9 R (by omega);omega
   have HV:Hid (⟨#[99,108,111,115,101,100,32]⟩++SF=⟨(jC t).toArray⟩):=af (by rw[wz bC.out HO.out HU.out,←Ji,hR];exact Ej _);have HSF:=Bx.mk Ji;clear Ji hR
   go_wp2_with fail
   refine(I8 _ t _ (HT.out.up dV.out.below)).mono ?_;rw[HRC.out];rintro e w4 ⟨rfl,hb4⟩;have iM:=af (dV.out.quiet hb4);clear hb4 q3 dV
   go_wp2_with fail
   refine(DC R (by omega) _ (Xa.out.up iM.out.below)).mono ?_;rw[HSF.out];rintro e w5 ⟨rfl,hb5⟩;have HB:=af (iM.out.quiet hb5).below;clear hb5;go_wp2;go_ret;exact⟨dh HV.out,HB.out⟩
theorem Em (v:Value) (t:aB) (w:World) (h:nI w w.heap.size v t) (hok:aK t=true):
  Calls Tryz.prog 44 #[v] w fun e w'=>e= .returned (.string ⟨(jC t).toArray⟩)∧Below w.heap.size w w':=by
 have h':=h;obtain⟨G,gn,gc,G',n',c',rfl,hg,hgs,hds,hst⟩:=h;have aQ:=af ((St.refl w).alloc #[.int .i64 t.start,.slice G gn gc,.slice G' n' c'] 26);have HT:=af h';have bC:=af hok;obtain⟨o,ho⟩:∃o,dK t=o:=⟨_,rfl⟩;have HO:=Bx.mk ho;clear h' hg hds hst hok ho;go_enter Tryz.func44,Tryz.ntmps44
 go_wp2_with fail
 refine(bP _ t _ (HT.out.up aQ.out.below)).mono ?_;rw[bC.out];rintro e w1 ⟨rfl,hb1⟩;have bG:=af (aQ.out.quiet hb1);clear hb1 aQ;have q1:=bG.out.cells 0 rfl
 go_wp2_with fail
 refine(rP _ t _ (HT.out.up bG.out.below)).mono ?_;rw[HO.out];rintro e w2 ⟨v2,rfl,s2⟩;obtain⟨PA,pc,hv2,hrd⟩:=s2.xq 0 rfl;subst hv2;have HS2:=af (bG.out.quiet s2.below);have AZ:=af hrd;clear s2 hrd bG q1;have q2:=HS2.out.cells 0 rfl
 cases o with
 |some p=>
  simp only[Option.getD_some,Option.isSome_some] at AZ ⊢
  have Uc:=af (vZ HO.out);have aas:p.length≤31:=(qi HO.out).1;have HPT:=Bx.mk (AB bC.out HO.out);obtain⟨n,hn⟩:∃n,p.length=n:=⟨_,rfl⟩;rw[hn] at AZ aas ⊢
  have HN:=af hn;have HB2:=af HS2.out.below;clear hn HS2 q2;go_wp2
  go_loopw [6,5] (fun i sv wr=>∃(k:Nat) (q:ByteArray),k≤n∧i= .int .i64 (k:Int)∧sv= .string q∧Hid (q=⟨(mX (p.take k)).toArray⟩)∧Below w2.heap.size w2 wr) (fun i _ _=>n-(intOf i).toNat)
  case atStart=>exact⟨0,_,by omega,rfl,rfl,af (by rw[List.take_zero,GY];rfl),ai _ _⟩
  case round=>
   obtain⟨k,q,hk,rfl,rfl,HQ,hbel⟩:=hrel;have HB:=af hbel;clear hbel
   by_cases hlt:k<n
   ·obtain⟨db,off,x,rfl,hdb,hxx,hw,hc⟩:=(AZ.out.up HB.out).get hlt;have hxm:=Uc.out x (bU hxx);obtain⟨x,rfl⟩:=bI hxm.1;have yD:x<100:=by omega
    have hq:q.size≤200:=by
     rw[HQ.out,ja];have h1:=GZ (p:=p.take k) fun x hx=>Uc.out x (List.mem_of_mem_take hx)
     have:(p.take k).length≤k:=List.length_take_le _ _
     omega
    obtain⟨SX,hSX⟩:∃x':ByteArray,(⟨(gZ x).toArray⟩:ByteArray)=x':=⟨_,rfl⟩;have hsx:SX.size≤2:=by rw[←hSX,ja];exact(ku x).2
    have hz1:¬9223372036854775807<q.size+1:=by omega
    have hz2:¬9223372036854775807<q.size+1+SX.size:=by omega
    have YF:Hid (q++⟨#[32]⟩++SX=⟨(mX (p.take (k+1))).toArray⟩):=af (by rw[Eh hxx,dD,yc yD,HQ.out,←hSX];exact LW _ _ _);have Xv:=Bx.mk hSX;clear hw hxx hxm hdb hSX
    go_wp2_with fail
    refine(pF x yD _).mono ?_;rw[Xv.out];rintro e w5 ⟨rfl,hb5⟩;have HB5:=af (HB.out.trans (hb5.mono HB.out.size));clear hb5 hc;go_wp2
    go_roundw
    case rel=>exact⟨k+1,_,by omega,by go_num,rfl,YF,HB5.out⟩
    case measure=>simp[intOf];omega
   ·have hke:k=n:=by omega
    have HE:Hid (q=⟨(jC t).toArray⟩):=af (by rw[HQ.out,HPT.out,hke,←HN.out,List.take_length]);have V8:=af (HB2.out.trans (HB.out.mono HB2.out.size));clear hke HQ;go_wp2;go_ret;exact⟨dh HE.out,V8.out⟩
 |none=>
  simp only[Option.getD_none,Option.isSome_none] at AZ ⊢
  obtain⟨u,hu⟩:∃u,kW t=u:=⟨_,rfl⟩;have HU:=Bx.mk hu;clear hu AZ
  go_wp2_with fail
  refine(LG _ t _ (HT.out.up HS2.out.below) bC.out).mono ?_;rw[HU.out];rintro e w3 ⟨rfl,hb3⟩;have dV:=af (HS2.out.quiet hb3);clear hb3 q2 HS2;have q3:=dV.out.cells 0 rfl
  cases u with
  |some f=>
   simp only[Option.isSome_some,opt];have aat:=G5 HU.out;obtain⟨SF,Ji⟩:∃x:ByteArray,(⟨(fP f).toArray⟩:ByteArray)=x:=⟨_,rfl⟩;have hz:¬9223372036854775807<4+SF.size:=by rw[←Ji,ja];have:=iy f;omega
   have HV:Hid (⟨#[115,117,109,32]⟩++SF=⟨(jC t).toArray⟩):=af (by rw[Ei bC.out HO.out HU.out,←Ji];exact P6 _);have HSF:=Bx.mk Ji;clear Ji
   go_wp2_with fail
   refine(jr f aat _).mono ?_;rw[HSF.out];rintro e w4 ⟨rfl,hb4⟩;have HB:=af (dV.out.quiet hb4).below;clear hb4;go_wp2;go_ret;exact⟨dh HV.out,HB.out⟩
  |none=>
   simp only[Option.isSome_none,opt];obtain⟨R,hR⟩:∃R,aN (lG t.ax (only t.start.toNat) 32) 32=R:=⟨_,rfl⟩;have hRl:R<4294967296:=by rw[←hR];exact cZ _
   obtain⟨SF,Ji⟩:∃x:ByteArray,(⟨(iY R).toArray⟩:ByteArray)=x:=⟨_,rfl⟩;have hz:¬9223372036854775807<7+SF.size:=by rw[←Ji,ja];have:=pz 9 R (by omega);omega
   have HV:Hid (⟨#[99,108,111,115,101,100,32]⟩++SF=⟨(jC t).toArray⟩):=af (by rw[wz bC.out HO.out HU.out,←Ji,hR];exact Ej _);have HSF:=Bx.mk Ji;have HRR:=Bx.mk hR;clear Ji hR
   go_wp2_with fail
   refine(Jj _ t _ (HT.out.up dV.out.below) bC.out).mono ?_;rw[HRR.out];rintro e w4 ⟨rfl,hb4⟩;have iM:=af (dV.out.quiet hb4);clear hb4 q3 dV
   go_wp2_with fail
   refine(kJ R (by omega) _).mono ?_;rw[HSF.out];rintro e w5 ⟨rfl,hb5⟩;have HB:=af (iM.out.quiet hb5).below;clear hb5;go_wp2;go_ret;exact⟨dh HV.out,HB.out⟩
end Go.Proofs.YtkmcengmglgdeaaGreatDoor
