/- Joined texts: ReachS, ProofT, RightP, RightI. -/
import Derived.Test.YtkmcengmglgdeaaGreatDoorSFwd
import Derived.Test.YtkmcengmglgdeaaGreatDoorSPermD
import Derived.Test.YtkmcengmglgdeaaGreatDoorSSumW
import Derived.Test.YtkmcengmglgdeaaGreatDoorSCondT
import Derived.Test.YtkmcengmglgdeaaGreatDoorSCondS
import Derived.Test.YtkmcengmglgdeaaGreatDoorSTaskTS
import Derived.Test.YtkmcengmglgdeaaGreatDoorSDrawB
import Derived.Test.YtkmcengmglgdeaaGreatDoorSPlanForW
import Derived.Test.YtkmcengmglgdeaaGreatDoorSPlanForS
import Derived.Test.YtkmcengmglgdeaaGreatDoorSClosI
import Derived.Test.YtkmcengmglgdeaaGreatDoorSActR
import Derived.Test.YtkmcengmglgdeaaGreatDoorSDoI

namespace Go.Proofs.YtkmcengmglgdeaaGreatDoor
set_option linter.unusedVariables false
set_option linter.unusedSimpArgs false
set_option maxRecDepth 100000
set_option maxHeartbeats 8000000
open Go.ChangeShapes Go.WideShapes Go.ChangeAt Go.RowKit
theorem JR (v:Value) (t:aB) (w:World) (h:oW w w.heap.size v t) (hok:aK t=true):
  Calls Tryz.prog 106 #[v] w fun e w'=>e= .returned (.int .i64 (aQ (lZ t.ay (only t.start.toNat) 32) 32:Nat))∧Below w.heap.size w w':=by
 have h':=h;obtain⟨G,gn,gc,G',n',c',rfl,hg,hgs,hds,hst⟩:=h;have HT:=af h';have bG:=af hok;have aS:=af ((St.refl w).alloc #[.int .i64 t.start,.slice G gn gc,.slice G' n' c'] 26);have qx:=(aJ t hok).1;obtain⟨st,hst'⟩:∃x,t.start=x:=⟨_,rfl⟩;rw[hst'] at qx HT aS ⊢
 obtain⟨s0,rfl⟩:=bC qx.1;have mG:s0<32:=by omega
 rw[bW];have aaK:=iK s0 (by omega);have aaL:IntKind.i64.wrap ((2:Int)^s0)=2^s0:=IntWalk.i64_in _ (by have:=jS s0 31 (by omega);have:(0:Int)<2^s0:=Int.pow_pos (by omega);omega);obtain⟨R,hR⟩:∃R,aQ (lZ t.ay (only s0) 32) 32=R:=⟨_,rfl⟩;have HR:=Bx.mk hR;rw[hR]
 have hP0:(2:Int)^s0=((aQ (lZ t.ay (only s0) 0) 32:Nat):Int):=by
  rw[show aQ (lZ t.ay (only s0) 0) 32=aQ (only s0) 32 from rfl,Hz mG];simp
 have HP0:=af hP0;clear h' hg hgs hds hst hok hst' qx hR hP0;go_enter Tryz.func106,Tryz.ntmps106
 go_wp2_with fail
 refine(bV _ t _ (HT.out.up aS.out.below)).mono ?_;rw[bG.out];rintro e w1 ⟨rfl,hb1⟩;have bf:=af (aS.out.quiet hb1);clear hb1 aS;have q1:=bf.out.cells 0 rfl;go_wp2
 try rw[HP0.out]
 clear aaK aaL
 go_loopw [3] (fun sv wr=>∃m M:Nat,m≤32∧sv= .int .i64 M∧Bx (M=aQ (lZ t.ay (only s0) m) 32)∧Bx (m≤cnt (lZ t.ay (only s0) m) 32)∧M<4294967296∧St w wr [ah w.heap.size 26 #[.int .i64 (s0:Int),.slice G gn gc,.slice G' n' c']]) (fun sv _=>4294967296-(intOf sv).toNat)
 case atStart=>exact⟨0,_,by omega,rfl,Bx.mk rfl,Bx.mk (Nat.zero_le _),dI _,bf.out⟩
 case round=>
  clear bf q1;obtain⟨m,M,hm,rfl,HM,HC,hM,S⟩:=hrel;have HS:=af S;clear S;have q1:=HS.out.cells 0 rfl
  go_wp2_with fail
  refine(tZ _ t M _ (HT.out.up HS.out.below) bG.out hM).mono ?_;obtain⟨N,hN⟩:∃N,aQ (lH t.ay (gq M)) 32=N:=⟨_,rfl⟩;have hNl:N<4294967296:=by rw[←hN];exact dI _
  obtain⟨M2,hM2⟩:∃M2,aQ (lZ t.ay (only s0) (m+1)) 32=M2:=⟨_,rfl⟩;have YL:Bx (M ||| N=M2):=Bx.mk (by rw[←hM2,←hN,HM.out,QK,CO];rfl);have hle:M≤M2:=by rw[←hM2,HM.out];exact VP
  have aaM:M2<4294967296:=by rw[←hM2];exact dI _
  have iO:=Bx.mk hM2;rw[hN];rintro e w3 ⟨rfl,hb3⟩;have cu:=af (HS.out.quiet hb3);clear hb3 hN hM2 q1
  go_wp2_with fail
  refine(o9 (M:Int) (N:Int) (by omega) (by omega) (by omega) (by omega) _).mono ?_;rw[bW,bW,YL.out];rintro e w4 ⟨rfl,rfl⟩
  by_cases he:M2=M
  ·have HF:Bx (M=R):=Bx.mk (by
    rw[←HR.out,HM.out]
    exact QJ hm (by rw[iO.out,←HM.out];exact he))
   subst he;go_wp2;go_ret;exact⟨aP (by rw[HF.out]),cu.out.below⟩
  ·have hne:((M2:Int) == (M:Int))=false:=by simp;omega
   have HC2:Bx (m+1≤cnt (lZ t.ay (only s0) (m+1)) 32):=Bx.mk (MR (by rw[iO.out,←HM.out];exact he) HC.out);have hm2:m+1≤32:=by have:=cnt_le (lZ t.ay (only s0) (m+1)) 32;have:=HC2.out;omega
   have hlt:M<M2:=by omega
   clear he hle;go_wp2
   go_roundw
   case rel=>exact⟨m+1,M2,hm2,rfl,Bx.mk iO.out.symm,HC2,aaM,cu.out⟩
   case measure=>simp[intOf];omega
theorem Iq:nG []=kM:=by simp[nG]
theorem E5 {p:List Int} {k:Nat} {x:Int} (h:p[k]? =some x):nG (p.take (k+1))=nG (p.take k)++32::jm x.toNat:=by
 unfold nG
 rw[List.take_add_one,h]
 simp
theorem Ir {p:List Int} (h:∀x∈p,0≤x∧x<6):(nG p).length≤4+3*p.length:=by
 unfold nG
 rw[bQ]
 have:(p.flatMap fun k=>32::jm k.toNat).length≤3*p.length:=by
  induction p with
  |nil=>simp
  |cons z p ih=>
   have h3:=rG 1 z.toNat (by have:=h z (List.mem_cons_self ..);omega)
   have:=ih fun x hx=>h x (List.mem_cons_of_mem _ hx)
   simp only[List.flatMap_cons,bQ,bM];omega
 have e:kM.length=4:=rfl
 omega
theorem BL {t:aB} {p:List Int} (hok:aK t=true) (h:dG t=some p):jq t=nG p:=by unfold jq;rw[if_pos hok,h]
theorem E8 {t:aB} {f:Nat} (hok:aK t=true) (h:dG t=none) (hs:kN t=some f):jq t=sumW++32::gK f:=by unfold jq;rw[if_pos hok,h,hs]
theorem xk {t:aB} (hok:aK t=true) (h:dG t=none) (hs:kN t=none):jq t=jk++32::jm (aQ (lZ t.ay (only t.start.toNat) 32) 32):=by unfold jq;rw[if_pos hok,h,hs]
theorem QW (l:List UInt8):(⟨#[115,117,109,32]⟩++⟨l.toArray⟩:ByteArray)=⟨(sumW++32::l).toArray⟩:=by
 rw[show(⟨#[115,117,109,32]⟩:ByteArray)=⟨[115,117,109,32].toArray⟩ from rfl,iV];rfl
theorem Fa (l:List UInt8):(⟨#[99,108,111,115,101,100,32]⟩++⟨l.toArray⟩:ByteArray)=⟨(jk++32::l).toArray⟩:=by
 rw[show(⟨#[99,108,111,115,101,100,32]⟩:ByteArray)=⟨[99,108,111,115,101,100,32].toArray⟩ from rfl,iV];rfl
theorem Iu {t:aB} {f:Nat} (h:kN t=some f):f<32:=by simpa using List.mem_of_find?_eq_some h
theorem EC (v:Value) (t:aB) (w:World) (h:oW w w.heap.size v t) (hok:aK t=true) (hp:lF w):
  Calls Tryz.prog 117 #[v] w fun e w'=>e= .returned (.string ⟨(jq t).toArray⟩)∧Below w.heap.size w w':=by
 have h':=h;obtain⟨G,gn,gc,G',n',c',rfl,hg,hgs,hds,hst⟩:=h;have aS:=af ((St.refl w).alloc #[.int .i64 t.start,.slice G gn gc,.slice G' n' c'] 26);have HT:=af h';have bG:=af hok;have XD:=af hp;obtain⟨o,ho⟩:∃o,dG t=o:=⟨_,rfl⟩;have HO:=Bx.mk ho;clear h' hg hds hst hok ho hp;go_enter Tryz.func117,Tryz.ntmps117
 go_wp2_with fail
 refine(bZ _ t _ (HT.out.up aS.out.below)).mono ?_;rw[bG.out];rintro e w1 ⟨rfl,hb1⟩;have bf:=af (aS.out.quiet hb1);clear hb1 aS;have q1:=bf.out.cells 0 rfl
 go_wp2_with fail
 refine(o7 _ t _ (HT.out.up bf.out.below)).mono ?_;rw[HO.out];rintro e w2 ⟨v2,rfl,s2⟩;obtain⟨PA,pc,hv2,hrd⟩:=s2.uj 0 rfl;subst hv2;have HS2:=af (bf.out.quiet s2.below);have zY:=af hrd;clear s2 hrd bf q1;have q2:=HS2.out.cells 0 rfl
 cases o with
 |some p=>
  simp only[Option.getD_some,Option.isSome_some] at zY ⊢
  have Oh:=af (wY HO.out);have X9:p.length≤31:=(oL HO.out).1;have HPT:=Bx.mk (BL bG.out HO.out);obtain⟨n,hn⟩:∃n,p.length=n:=⟨_,rfl⟩;rw[hn] at zY X9 ⊢
  have HN:=af hn;obtain⟨b,hb⟩:∃b,w2.heap.size=b:=⟨_,rfl⟩;have HT0:Hid (TS w2 b [] [] (w2.alloc (.cells #[.pointer none,.slice none 0 0] 117))):=af (by rw[←hb];exact TS.acX w2);have HB2:=af HS2.out.below;clear hn HS2
  go_wp2_with fail
  try rw[hb]
  refine(HT0.out.ws _ kM rfl (by decide)).mono ?_;rintro e w3 ⟨rfl,h3⟩;have HT3:Hid (TS w2 b (nG (p.take 0)) [] w3):=af (by rw[List.take_zero,Iq];exact h3);clear h3 HT0 hb q2;go_wp2
  go_loopw [22] (fun i wr=>∃k:Nat,k≤n∧i= .int .i64 (k:Int)∧Hid (TS w2 b (nG (p.take k)) [] wr)) (fun i _=>n-(intOf i).toNat)
  case atStart=>exact⟨0,by omega,rfl,HT3⟩
  case round=>
   clear HT3;obtain⟨k,hk,rfl,HTB⟩:=hrel
   by_cases hlt:k<n
   ·obtain⟨db,off,x,rfl,hdb,hxx,hw,hc⟩:=(zY.out.up HTB.out.below).get hlt;have hxm:=Oh.out x (bT hxx);obtain⟨x,rfl⟩:=bC hxm.1;have zk:x<100:=by omega
    have HZ:=af (show(nG (p.take k)).length≤200 by
     have h1:=Ir (p:=p.take k) fun x hx=>Oh.out x (List.mem_of_mem_take hx)
     have:(p.take k).length≤k:=List.length_take_le _ _
     omega)
    have NI:=af (jJ x).2;have zB:Hid (nG (p.take (k+1))=nG (p.take k)++32::iI x):=af (by rw[E5 hxx,bW,yT zk]);clear hw hxx hxm hdb
    go_wp2_with fail
    refine(HTB.out.wb 32 (by have:=HZ.out;omega)).mono ?_;rintro e w4 ⟨rfl,h4⟩;have HT4:=af h4;clear h4 hc
    go_wp2_with fail
    refine(qw x zk _).mono ?_;rintro e w5 ⟨rfl,rfl⟩
    go_wp2_with fail
    refine(HT4.out.ws _ (iI x) rfl (by have:=HZ.out;have:=NI.out;simp only[bQ,bM,List.length_nil];omega)).mono ?_;rintro e w6 ⟨rfl,h6⟩;have Ya:Hid (TS w2 b (nG (p.take (k+1))) [] w6):=af (by rw[zB.out];simpa using h6);clear h6 HT4 HTB;go_wp2
    go_roundw
    case rel=>exact⟨k+1,by omega,by go_num,Ya⟩
    case measure=>simp[intOf];omega
   ·have hke:k=n:=by omega
    have HE:Hid (jq t=nG (p.take k)):=af (by rw[HPT.out,hke,←HN.out,List.take_length]);clear hke
    go_wp2_with fail
    refine HTB.out.done.mono ?_;rintro e w4 ⟨rfl,hb4⟩;have HB:=af (HB2.out.trans (hb4.mono HB2.out.size));clear hb4;go_wp2;go_ret;exact⟨dK (by rw[HE.out]),HB.out⟩
 |none=>
  simp only[Option.getD_none,Option.isSome_none] at zY ⊢
  obtain⟨u,hu⟩:∃u,kN t=u:=⟨_,rfl⟩;have HU:=Bx.mk hu;clear hu zY
  go_wp2_with fail
  refine(Nj _ t _ (HT.out.up HS2.out.below) bG.out).mono ?_;rw[HU.out];rintro e w3 ⟨rfl,hb3⟩;have cu:=af (HS2.out.quiet hb3);clear hb3 q2 HS2;have q3:=cu.out.cells 0 rfl
  cases u with
  |some f=>
   simp only[Option.isSome_some,opt];have aa4:=Iu HU.out;obtain⟨SF,JQ⟩:∃x:ByteArray,(⟨(gK f).toArray⟩:ByteArray)=x:=⟨_,rfl⟩;have hz:¬9223372036854775807<4+SF.size:=by rw[←JQ,jl];have:=iM f;omega
   have HV:Hid (⟨#[115,117,109,32]⟩++SF=⟨(jq t).toArray⟩):=af (by rw[E8 bG.out HO.out HU.out,←JQ];exact QW _);have HSF:=Bx.mk JQ;clear JQ
   go_wp2_with fail
   refine(iQ f aa4 _).mono ?_;rw[HSF.out];rintro e w4 ⟨rfl,hb4⟩;have HB:=af (cu.out.quiet hb4).below;clear hb4;go_wp2;go_ret;exact⟨dK HV.out,HB.out⟩
  |none=>
   simp only[Option.isSome_none,opt];obtain⟨R,hR⟩:∃R,aQ (lZ t.ay (only t.start.toNat) 32) 32=R:=⟨_,rfl⟩;have hRl:R<4294967296:=by rw[←hR];exact dI _
   have HRC:Hid (reached t=(R:Int)):=af (by unfold reached;rw[if_pos bG.out,hR]);obtain⟨SF,JQ⟩:∃x:ByteArray,(⟨(jm R).toArray⟩:ByteArray)=x:=⟨_,rfl⟩;have hz:¬9223372036854775807<7+SF.size:=by rw[←JQ,jl];have:=rG 9 R (by omega);omega
   have HV:Hid (⟨#[99,108,111,115,101,100,32]⟩++SF=⟨(jq t).toArray⟩):=af (by rw[xk bG.out HO.out HU.out,←JQ,hR];exact Fa _);have HSF:=Bx.mk JQ;clear JQ hR
   go_wp2_with fail
   refine(JH _ t _ (HT.out.up cu.out.below)).mono ?_;rw[HRC.out];rintro e w4 ⟨rfl,hb4⟩;have fH:=af (cu.out.quiet hb4);clear hb4 q3 cu
   go_wp2_with fail
   refine(Ez R (by omega) _ (XD.out.up fH.out.below)).mono ?_;rw[HSF.out];rintro e w5 ⟨rfl,hb5⟩;have HB:=af (fH.out.quiet hb5).below;clear hb5;go_wp2;go_ret;exact⟨dK HV.out,HB.out⟩
theorem Eo (v:Value) (t:aB) (w:World) (h:oW w w.heap.size v t) (hok:aK t=true):
  Calls Tryz.prog 44 #[v] w fun e w'=>e= .returned (.string ⟨(jq t).toArray⟩)∧Below w.heap.size w w':=by
 have h':=h;obtain⟨G,gn,gc,G',n',c',rfl,hg,hgs,hds,hst⟩:=h;have aS:=af ((St.refl w).alloc #[.int .i64 t.start,.slice G gn gc,.slice G' n' c'] 26);have HT:=af h';have bG:=af hok;obtain⟨o,ho⟩:∃o,dG t=o:=⟨_,rfl⟩;have HO:=Bx.mk ho;clear h' hg hds hst hok ho;go_enter Tryz.func44,Tryz.ntmps44
 go_wp2_with fail
 refine(bV _ t _ (HT.out.up aS.out.below)).mono ?_;rw[bG.out];rintro e w1 ⟨rfl,hb1⟩;have bf:=af (aS.out.quiet hb1);clear hb1 aS;have q1:=bf.out.cells 0 rfl
 go_wp2_with fail
 refine(sS _ t _ (HT.out.up bf.out.below)).mono ?_;rw[HO.out];rintro e w2 ⟨v2,rfl,s2⟩;obtain⟨PA,pc,hv2,hrd⟩:=s2.uj 0 rfl;subst hv2;have HS2:=af (bf.out.quiet s2.below);have zY:=af hrd;clear s2 hrd bf q1;have q2:=HS2.out.cells 0 rfl
 cases o with
 |some p=>
  simp only[Option.getD_some,Option.isSome_some] at zY ⊢
  have Oh:=af (wY HO.out);have X9:p.length≤31:=(oL HO.out).1;have HPT:=Bx.mk (BL bG.out HO.out);obtain⟨n,hn⟩:∃n,p.length=n:=⟨_,rfl⟩;rw[hn] at zY X9 ⊢
  have HN:=af hn;have HB2:=af HS2.out.below;clear hn HS2 q2;go_wp2
  go_loopw [6,5] (fun i sv wr=>∃(k:Nat) (q:ByteArray),k≤n∧i= .int .i64 (k:Int)∧sv= .string q∧Hid (q=⟨(nG (p.take k)).toArray⟩)∧Below w2.heap.size w2 wr) (fun i _ _=>n-(intOf i).toNat)
  case atStart=>exact⟨0,_,by omega,rfl,rfl,af (by rw[List.take_zero,Iq];rfl),ai _ _⟩
  case round=>
   obtain⟨k,q,hk,rfl,rfl,HQ,hbel⟩:=hrel;have HB:=af hbel;clear hbel
   by_cases hlt:k<n
   ·obtain⟨db,off,x,rfl,hdb,hxx,hw,hc⟩:=(zY.out.up HB.out).get hlt;have hxm:=Oh.out x (bT hxx);obtain⟨x,rfl⟩:=bC hxm.1;have zk:x<100:=by omega
    have hq:q.size≤200:=by
     rw[HQ.out,jl];have h1:=Ir (p:=p.take k) fun x hx=>Oh.out x (List.mem_of_mem_take hx)
     have:(p.take k).length≤k:=List.length_take_le _ _
     omega
    obtain⟨SX,hSX⟩:∃x':ByteArray,(⟨(iI x).toArray⟩:ByteArray)=x':=⟨_,rfl⟩;have hsx:SX.size≤2:=by rw[←hSX,jl];exact(jJ x).2
    have hz1:¬9223372036854775807<q.size+1:=by omega
    have hz2:¬9223372036854775807<q.size+1+SX.size:=by omega
    have ZB:Hid (q++⟨#[32]⟩++SX=⟨(nG (p.take (k+1))).toArray⟩):=af (by rw[E5 hxx,bW,yT zk,HQ.out,←hSX];exact Nv _ _ _);have X7:=Bx.mk hSX;clear hw hxx hxm hdb hSX
    go_wp2_with fail
    refine(qp x zk _).mono ?_;rw[X7.out];rintro e w5 ⟨rfl,hb5⟩;have HB5:=af (HB.out.trans (hb5.mono HB.out.size));clear hb5 hc;go_wp2
    go_roundw
    case rel=>exact⟨k+1,_,by omega,by go_num,rfl,ZB,HB5.out⟩
    case measure=>simp[intOf];omega
   ·have hke:k=n:=by omega
    have HE:Hid (q=⟨(jq t).toArray⟩):=af (by rw[HQ.out,HPT.out,hke,←HN.out,List.take_length]);have HBB:=af (HB2.out.trans (HB.out.mono HB2.out.size));clear hke HQ;go_wp2;go_ret;exact⟨dK HE.out,HBB.out⟩
 |none=>
  simp only[Option.getD_none,Option.isSome_none] at zY ⊢
  obtain⟨u,hu⟩:∃u,kN t=u:=⟨_,rfl⟩;have HU:=Bx.mk hu;clear hu zY
  go_wp2_with fail
  refine(Nk _ t _ (HT.out.up HS2.out.below) bG.out).mono ?_;rw[HU.out];rintro e w3 ⟨rfl,hb3⟩;have cu:=af (HS2.out.quiet hb3);clear hb3 q2 HS2;have q3:=cu.out.cells 0 rfl
  cases u with
  |some f=>
   simp only[Option.isSome_some,opt];have aa4:=Iu HU.out;obtain⟨SF,JQ⟩:∃x:ByteArray,(⟨(gK f).toArray⟩:ByteArray)=x:=⟨_,rfl⟩;have hz:¬9223372036854775807<4+SF.size:=by rw[←JQ,jl];have:=iM f;omega
   have HV:Hid (⟨#[115,117,109,32]⟩++SF=⟨(jq t).toArray⟩):=af (by rw[E8 bG.out HO.out HU.out,←JQ];exact QW _);have HSF:=Bx.mk JQ;clear JQ
   go_wp2_with fail
   refine(jF f aa4 _).mono ?_;rw[HSF.out];rintro e w4 ⟨rfl,hb4⟩;have HB:=af (cu.out.quiet hb4).below;clear hb4;go_wp2;go_ret;exact⟨dK HV.out,HB.out⟩
  |none=>
   simp only[Option.isSome_none,opt];obtain⟨R,hR⟩:∃R,aQ (lZ t.ay (only t.start.toNat) 32) 32=R:=⟨_,rfl⟩;have hRl:R<4294967296:=by rw[←hR];exact dI _
   obtain⟨SF,JQ⟩:∃x:ByteArray,(⟨(jm R).toArray⟩:ByteArray)=x:=⟨_,rfl⟩;have hz:¬9223372036854775807<7+SF.size:=by rw[←JQ,jl];have:=rG 9 R (by omega);omega
   have HV:Hid (⟨#[99,108,111,115,101,100,32]⟩++SF=⟨(jq t).toArray⟩):=af (by rw[xk bG.out HO.out HU.out,←JQ,hR];exact Fa _);have HSF:=Bx.mk JQ;have HRR:=Bx.mk hR;clear JQ hR
   go_wp2_with fail
   refine(JR _ t _ (HT.out.up cu.out.below) bG.out).mono ?_;rw[HRR.out];rintro e w4 ⟨rfl,hb4⟩;have fH:=af (cu.out.quiet hb4);clear hb4 q3 cu
   go_wp2_with fail
   refine(kZ R (by omega) _).mono ?_;rw[HSF.out];rintro e w5 ⟨rfl,hb5⟩;have HB:=af (fH.out.quiet hb5).below;clear hb5;go_wp2;go_ret;exact⟨dK HV.out,HB.out⟩
theorem aaG {n:Nat} (h:2≤n):(100:Int)≤10^n:=by
 obtain⟨j,rfl⟩:∃j,n=j+2:=⟨n-2,by omega⟩;rw[Int.pow_succ,Int.pow_succ];have:(0:Int)<10^j:=Int.pow_pos (by omega)
 omega
theorem aaH {n:Nat} (h:n≤2):(10:Int)^n≤100:=by
 obtain rfl | rfl | rfl:n=0∨n=1∨n=2:=by omega
 all_goals decide
theorem JA (c:UInt8) (cur s:List UInt8):fQ c cur s≠[]:=by
 induction s generalizing cur with
 |nil=>simp[fQ]
 |cons x s ih=>
  simp only[fQ]
  split
  ·simp
  ·exact ih _
theorem EF {c:UInt8} {l:List UInt8} (h:c∈l):∃a b,l=a++c::b∧c∉a:=by
 induction l with
 |nil=>cases h
 |cons x l ih=>
  by_cases e:x=c
  ·exact⟨[],l,by rw[e];rfl,by simp⟩
  ·obtain⟨a,b,rfl,ha⟩:=ih (by simpa[Ne.symm e] using h);exact⟨x::a,b,rfl,by simp[Ne.symm e,ha]⟩
theorem Am (s:List UInt8):∀acc,gu acc s=(lY acc s).getD (-1):=by
 induction s with
 |nil=>intro acc;rfl
 |cons c s ih=>
  intro acc;simp only[gu,lY]
  split
  ·rfl
  ·rw[ih,Int.mul_comm]
theorem Ti (s:List UInt8):ku s=(rdNum 10 s).getD (-1):=by
 unfold ku rdNum
 by_cases h:s.length<1∨10<s.length∨(1<s.length∧s.head? =some 48)
 ·rw[if_pos h,if_pos]
  ·rfl
  ·rcases h with h | h | ⟨h1,h2⟩
   ·left;exact List.eq_nil_of_length_eq_zero (by omega)
   ·right;left;omega
   ·right;right;exact⟨h2,h1⟩
 ·rw[if_neg h,if_neg]
  ·exact Am s 0
  ·rintro(h' | h' | ⟨h1,h2⟩)
   ·subst h';exact h (.inl (by simp))
   ·exact h (.inr (.inl (by omega)))
   ·exact h (.inr (.inr ⟨h2,h1⟩))
theorem Po {s:List UInt8} (h:(32:UInt8)∈s):∀acc,lY acc s=none:=by
 induction s with
 |nil=>cases h
 |cons c s ih=>
  intro acc;simp only[lY]
  rcases List.mem_cons.1 h with e | e
  ·rw[←e,if_pos (by decide)]
  ·split
   ·rfl
   ·exact ih e _
theorem ML {d:Int} {s:List UInt8} (h:(32:UInt8)∈s):rdNum d s=none:=by
 unfold rdNum
 split
 ·rfl
 ·exact Po h 0
theorem Pq {s:List UInt8} (h:(32:UInt8)∈s):uh s=none:=by
 cases e:uh s with
 |none=>rfl
 |some n=>
  obtain⟨h1,h2⟩:=rO e;exact absurd (h2▸h) (Tj n h1)
theorem Zw {s:List UInt8}:∀acc,0≤acc→∀v,lY acc s=some v→0≤v:=by
 induction s with
 |nil=>intro acc h v e;simp only[lY] at e;injection e with e;omega
 |cons c s ih=>
  intro acc h v e;simp only[lY] at e
  split at e
  ·cases e
  ·exact ih _ (by omega) v e
theorem MN {s:List UInt8}:∀acc,0≤acc→∀v,lY acc s=some v→acc*10^s.length≤v∧v<(acc+1)*10^s.length:=by
 induction s with
 |nil=>intro acc h v e;simp only[lY] at e;injection e with e;simp;omega
 |cons c s ih=>
  intro acc h v e;simp only[lY] at e
  split at e
  ·cases e
  ·obtain⟨h1,h2⟩:=ih _ (by omega) v e;have hp:(0:Int)<10^s.length:=Int.pow_pos (by omega);rw[bM,Int.pow_succ]
   generalize (10:Int)^s.length=q at*
   have hc:(acc*10+((c.toNat:Int)-48))*q=acc*(q*10)+((c.toNat:Int)-48)*q:=by
    rw[Int.add_mul,Int.mul_assoc,Int.mul_comm 10 q]
   have hd:(acc*10+((c.toNat:Int)-48)+1)*q=acc*(q*10)+((c.toNat:Int)-47)*q:=by
    rw[show acc*10+((c.toNat:Int)-48)+1=acc*10+((c.toNat:Int)-47) by omega,Int.add_mul,Int.mul_assoc,Int.mul_comm 10 q]
   have h0:0≤((c.toNat:Int)-48)*q:=Int.mul_nonneg (by omega) (by omega);have h9:((c.toNat:Int)-47)*q≤10*q:=Int.mul_le_mul_of_nonneg_right (by omega) (by omega);have he:(acc+1)*(q*10)=acc*(q*10)+10*q:=by rw[Int.add_mul,Int.one_mul,Int.mul_comm q 10]
   omega
theorem MJ (s:List UInt8):(∃v,rdNum 2 s=some v∧kH s=v∧0≤v∧v<100)∨rdNum 2 s=none∧¬(0≤kH s∧kH s<6):=by
 unfold rdNum kH
 by_cases h:s.length<1∨4<s.length∨1<s.length∧s.head? =some 48
 ·right
  rw[if_pos h];refine⟨?_,by omega⟩
  split
  ·rfl
  ·rename_i h'
   exfalso
   apply h'
   rcases h with h | h | ⟨h1,h2⟩
   ·left;exact List.eq_nil_of_length_eq_zero (by omega)
   ·right;left;omega
   ·right;right;exact⟨h2,h1⟩
 ·rw[if_neg h]
  by_cases h2:(2:Int)<(s.length:Int)
  ·right
   rw[if_pos (.inr (.inl h2))];refine⟨rfl,?_⟩;rw[Am]
   match s,h,h2 with
   |c::s,h,h2=>
    simp only[lY]
    split
    ·simp
    ·rename_i hc
     cases e:lY (0*10+((c.toNat:Int)-48)) s with
     |none=>simp
     |some v=>
      have hne:c.toNat≠48:=fun e48=>h (.inr (.inr ⟨by simp at h2 ⊢;omega,by simp only[List.head?_cons];exact congrArg some (UInt8.toNat_inj.1 (by rw[e48];rfl))⟩))
      obtain⟨b1,-⟩:=MN _ (by omega) v e;simp only[Option.getD_some];have hl:2≤s.length:=by simp at h2;omega
      have hp:(100:Int)≤10^s.length:=aaG hl;have hq:1*(10:Int)^s.length≤(0*10+((c.toNat:Int)-48))*10^s.length:=Int.mul_le_mul_of_nonneg_right (by omega) (by omega)
      omega
  ·have hc:¬(s=[]∨(2:Int)<(s.length:Int)∨s.head? =some 48∧1<s.length):=by
    rintro(h' | h' | ⟨h1,h2'⟩)
    ·subst h';exact h (.inl (by simp))
    ·exact h2 h'
    ·exact h (.inr (.inr ⟨h2',h1⟩))
   rw[if_neg hc,Am]
   cases e:lY 0 s with
   |none=>right;exact⟨rfl,by simp⟩
   |some v=>
    left
    obtain⟨b1,b2⟩:=MN 0 (by omega) v e;refine⟨v,rfl,rfl,by omega,?_⟩;have hl:s.length≤2:=by omega
    have hp:(10:Int)^s.length≤100:=aaH hl
    omega
def readAll:List (List UInt8)→Option (List Int)
 | []=>some []
 |w::ws=>(rdNum 2 w).bind fun v=>(readAll ws).map fun p=>v::p
def vF (ws:List (List UInt8)):Option (List Int):=if ws.length≤40 then readAll ws else none
theorem XJ {t:aB} {p:List Int} {x:Int} (h6:t.ay.length≤6) (hx:x∈p) (h:¬(0≤x∧x<6)):iW t p=false:=by
 have:aC t t.start p= -1:=by
  unfold aC
  split
  ·have hr:∀(p:List Int) (s:Nat),x∈p→jY t s p=none:=by
    intro p
    induction p with
    |nil=>intro s hx;cases hx
    |cons k p ih=>
     intro s hx;simp only[jY]
     cases hk:mr t s k with
     |none=>rfl
     |some s1=>
      rcases List.mem_cons.1 hx with rfl | hx
      ·unfold mr at hk
       rw[if_neg (by omega)] at hk
       cases hk
      ·exact ih s1 hx
   rw[hr p _ hx];rfl
  ·rfl
 unfold iW
 rw[this];rfl
theorem Tm {t:aB} {p:List Int} (h:¬p.length≤40):iW t p=false:=by
 unfold iW aC
 rw[if_neg (fun hh=>h hh.2.2)];rfl
theorem JB (ws:List (List UInt8)):(∃p,readAll ws=some p∧ws.map kH=p∧∀x∈p,0≤x∧x<100)∨readAll ws=none∧∃x∈ws.map kH,¬(0≤x∧x<6):=by
 induction ws with
 |nil=>exact .inl ⟨[],rfl,rfl,by simp⟩
 |cons w ws ih=>
  rcases MJ w with⟨v,h1,h2,h3,h4⟩ | ⟨h1,h2⟩
  ·rcases ih with⟨p,i1,i2,i3⟩ | ⟨i1,x,i2,i3⟩
   ·left
    refine⟨v::p,by simp[readAll,h1,i1],by simp[h2,i2],fun x hx=>?_⟩
    rcases List.mem_cons.1 hx with rfl | hx
    ·exact⟨h3,h4⟩
    ·exact i3 x hx
   ·right
    exact⟨by simp[readAll,h1,i1],x,List.mem_cons_of_mem _ i2,i3⟩
  ·right
   exact⟨by simp[readAll,h1],kH w,by simp,h2⟩
theorem Tn {t:aB} (h6:t.ay.length≤6) (ws:List (List UInt8)):iW t (ws.map kH)=(match vF ws with | some p=>iW t p | none=>false):=by
 unfold vF
 by_cases hl:ws.length≤40
 ·rw[if_pos hl]
  rcases JB ws with⟨p,i1,i2,-⟩ | ⟨i1,x,i2,i3⟩
  ·rw[i1,i2]
  ·rw[i1,XJ h6 i2 i3]
 ·rw[if_neg hl,Tm (by simpa using hl)]
theorem JC (ws:List (List UInt8)) (w:List UInt8):readAll (ws++[w])=(readAll ws).bind fun p=>(rdNum 2 w).map fun v=>p++[v]:=by
 induction ws with
 |nil=>cases h:rdNum 2 w<;>simp[readAll,h]
 |cons x ws ih=>
  simp only[List.cons_append,readAll,ih]
  cases rdNum 2 x with
  |none=>rfl
  |some v=>
   cases readAll ws with
   |none=>rfl
   |some p=>cases rdNum 2 w<;>rfl
theorem Jw {ws:List (List UInt8)} {k:Nat} {w:List UInt8} (h:ws[k]? =some w):readAll (ws.take (k+1))=(readAll (ws.take k)).bind fun p=>(rdNum 2 w).map fun v=>p++[v]:=by
 rw[List.take_add_one,h];exact JC _ _
theorem MI {ws:List (List UInt8)} {k:Nat} (h:readAll (ws.take k)=none):readAll ws=none:=by
 rw[←List.take_append_drop k ws]
 generalize ws.take k=a at h
 generalize ws.drop k=b
 induction a with
 |nil=>simp[readAll] at h
 |cons x a ih=>
  simp only[List.cons_append,readAll] at h ⊢
  cases h1:rdNum 2 x with
  |none=>rfl
  |some v=>
   rw[h1] at h
   cases h2:readAll a with
   |none=>rw[ih h2];rfl
   |some p=>rw[h2] at h;cases h
theorem EG {t:aB} {s:List UInt8} {ws:List (List UInt8)} (h6:t.ay.length≤6) (h:fQ 32 [] s=kM::ws):bY t s=(match vF ws with | some p=>if iW t p then 1 else -1 | none=>-1):=by
 unfold bY
 rw[h];simp only[if_true];rw[Tn h6]
 cases vF ws<;>rfl
theorem Jz {t:aB} {s b:List UInt8} (h:s=jk++32::b):bY t s=(match rdNum 10 b with | some z=>if eF t z then 0 else -1 | none=>-1):=by
 subst h
 unfold bY
 rw[oP (by decide),List.nil_append]
 simp only
 rw[if_neg (by decide),if_pos trivial]
 by_cases hb:(32:UInt8)∈b
 ·rw[ML hb];obtain⟨a,c,rfl,ha⟩:=EF hb;rw[oP ha];have:fQ 32 [] c≠[]:=JA 32 [] c
  cases hc:fQ 32 [] c with
  |nil=>exact absurd hc this
  |cons x l=>rfl
 ·rw[nX hb,List.nil_append]
  simp only
  rw[Ti]
  cases rdNum 10 b with
  |some z=>rfl
  |none=>exact if_neg (by rw[show(none:Option Int).getD (-1)= -1 from rfl,tC (by omega)];simp)
theorem Tf {t:aB} {s b:List UInt8} (h:s=sumW++32::b):bY t s=(match uh b with | some f=>if kE t f then 0 else -1 | none=>-1):=by
 subst h
 unfold bY
 rw[oP (by decide),List.nil_append]
 simp only
 rw[if_neg (by decide),if_neg (by decide),if_pos trivial]
 by_cases hb:(32:UInt8)∈b
 ·rw[Pq hb];obtain⟨a,c,rfl,ha⟩:=EF hb;rw[oP ha];have:fQ 32 [] c≠[]:=JA 32 [] c
  cases hc:fQ 32 [] c with
  |nil=>exact absurd hc this
  |cons x l=>rfl
 ·rw[nX hb,List.nil_append];rfl
theorem BF {t:aB} {s w:List UInt8} {ws:List (List UInt8)} (h:fQ 32 [] s=w::ws) (h1:w≠kM) (h2:w≠jk∨ws=[]) (h3:w≠sumW∨ws=[]):bY t s= -1:=by
 unfold bY
 rw[h]
 simp only
 rw[if_neg h1]
 by_cases hc:w=jk
 ·rw[if_pos hc]
  rcases h2 with h2 | rfl
  ·exact absurd hc h2
  ·rfl
 ·rw[if_neg hc]
  by_cases hs:w=sumW
  ·rw[if_pos hs]
   rcases h3 with h3 | rfl
   ·exact absurd hs h3
   ·rfl
  ·rw[if_neg hs]
theorem MH (s:ByteArray) (w:World):
  Calls Tryz.prog 168 #[.string s,.bool false] w (gX (some []) w):=by
 go_enter Tryz.func168,Tryz.ntmps168;go_wp2;exact bodyPost_ret (v:=.tuple #[.slice none 0 0,.bool true]) (by simp[results,Tryz.results168,go_sem]) rfl (gX.yes rfl (iw _ _ (ai _ _)))
theorem Jv (s:ByteArray) (w:World) (hs:s.size<4294967281):
  Calls Tryz.prog 168 #[.string s,.bool true] w (gX (vF (fQ 32 [] s.data.toList)) w):=by
 have hsp:=VJ s w hs;have hcs:=vz 32 s.data.toList [];have hsl:s.data.toList.length=s.size:=(Lib.size_eq s).symm;obtain⟨ws,hws⟩:∃ws,fQ 32 [] s.data.toList=ws:=⟨_,rfl⟩;rw[hws] at hsp hcs ⊢
 have hpc:∀l∈ws,l.length≤4294967281:=fun l hl=>by have:=hcs l hl;simp only[List.length_nil] at this;omega
 obtain⟨cs,hcd⟩:∃cs,(ws.map fun l=>Value.string ⟨l.toArray⟩).toArray=cs:=⟨_,rfl⟩;obtain⟨n,hn⟩:∃n,ws.length=n:=⟨_,rfl⟩;rw[hcd,hn] at hsp
 have hn2:n≤4294967290:=by
  have:=Ey 32 s.data.toList []
  rw[hws,hn,hsl] at this
  omega
 have HAT:∀(k:Nat) (l:List UInt8),ws[k]? =some l→cs[k]? =some (Value.string ⟨l.toArray⟩):=fun k l h=>by rw[←hcd];simp[h]
 have rC:=af hsp;have HPC:=af hpc;have HCS:=af HAT;have HN:=af hn;clear hsp hpc HAT hws hcs hsl hs hcd hn;go_enter Tryz.func168,Tryz.ntmps168
 go_wp2_with fail
 refine rC.out.mono ?_;rintro e w1 ⟨rfl,rfl⟩;have bf:=af ((St.refl w).alloc cs 9)
 by_cases Rl:(40:Int)<(n:Int)
 ·have HP:Bx (vF ws=none):=Bx.mk (by unfold vF;rw[if_neg (by rw[HN.out];omega)]);go_wp2;exact bodyPost_ret (v:=.tuple #[.slice none 0 0,.bool false]) (by simp[results,Tryz.results168,go_sem]) rfl (gX.no HP.out bf.out.below)
 ·have kQ:n≤40:=by omega
  have HP:Bx (vF ws=readAll ws):=Bx.mk (by unfold vF;rw[if_pos (by rw[HN.out];omega)]);have HS2:Hid (St w (w.alloc (.cells cs 9)) [ah w.heap.size 9 cs,ax (.slice none 0 0) []]):=af (bf.out.call (iw _ _ (ai _ _)));go_wp2
  go_loopw [21,7] (fun i v wr=>∃(k:Nat) (x:Value) (ys:List Int),k≤n∧i= .int .i64 k∧x=v∧ys.length=k∧Bx (readAll (ws.take k)=some ys)∧St w wr [ah w.heap.size 9 cs,ax x ys]) (fun i _ _=>n-(intOf i).toNat)
  case atStart=>exact⟨0,_,[],by omega,rfl,rfl,rfl,Bx.mk rfl,HS2.out⟩
  case round=>
   clear HS2 bf;obtain⟨k,x,ys,hk,rfl,rfl,hyl,HM,S⟩:=hrel;have HS:=af S;clear S
   by_cases hlt:k<n
   ·obtain⟨l,hl⟩:∃l,ws[k]? =some l:=⟨ws[k]'(by rw[HN.out];exact hlt),bH _⟩;have r0:wr.cell? ⟨w.heap.size,k,none⟩=some (.string ⟨l.toArray⟩):=(HS.out.cells 0 rfl k).trans (HCS.out k l hl)
    have hll:(⟨l.toArray⟩:ByteArray).size≤9223372036854775807:=by
     have:=HPC.out l (bT hl)
     show l.toArray.size≤_
     rw[List.size_toArray];omega
    have HLK:=af hl;have hra:=Jw hl;rw[HM.out] at hra;have hrd:=nD ⟨l.toArray⟩ 2 wr (by decide) hll;rw[show(⟨l.toArray⟩:ByteArray).data.toList=l from rfl] at hrd;obtain⟨o,ho⟩:∃o,rdNum 2 l=o:=⟨_,rfl⟩;rw[ho] at hra hrd;have zY:=af hrd;have HO:=Bx.mk ho;have HRA:=Bx.mk hra;clear hrd hra ho hl hll
    go_wp2_with fail
    refine zY.out.mono ?_;rintro e w3 ⟨he,rfl⟩
    unfold VB at he
    subst he
    cases o with
    |none=>
     have HNO:Bx (vF ws=none):=Bx.mk (by rw[HP.out];exact MI (k:=k+1) (by rw[HRA.out];rfl));simp only[Option.getD_none,Option.isSome_none];go_wp2;exact bodyPost_ret (v:=.tuple #[.slice none 0 0,.bool false]) (by simp[results,Tryz.results168,go_sem]) rfl (gX.no HNO.out HS.out.below)
    |some z=>
     have hz:0≤z∧z<100:=by
      rcases MJ l with⟨v,h1,h2,h3,h4⟩ | ⟨h1,h2⟩
      ·rw[HO.out] at h1;injection h1 with h1;subst h1;exact⟨h3,h4⟩
      ·rw[HO.out] at h1;cases h1
     have iO:Bx (readAll (ws.take (k+1))=some (ys++[z])):=Bx.mk (by rw[HRA.out];rfl);simp only[Option.getD_some,Option.isSome_some];have nO:=af (HS.out.qA 1 rfl)
     have Lr:Hid (∀v3 w3',w3'.ownsRow 0 3 1 v3 (ys.length+1) (ints ys++[Value.int .i64 z])→(wr.alloc (.cells #[.int .i64 z] 3)).grownBy w3' x.ownBlock→(v3.ownBlock=x.ownBlock∨v3.ownBlock=some (wr.alloc (.cells #[.int .i64 z] 3)).heap.size)→
       St w w3' [ah w.heap.size 9 cs,ax v3 (ys++[z])]):=
      af fun v3 w3' h1 h2 h3=>St.rY (v:=x) (xs:=ys) (ys:=[z]) ((HS.out.alloc #[.int .i64 z] 3).pick [0,1] (by decide) rfl rfl) 1 rfl rfl h1 (by intro y hy;simp at hy;subst hy;exact bU (by omega)) h2 h3
     go_wp2_with (at_builtin;refine cZ iR rfl _ _ rfl 0 x ys.length (ints ys) rfl (nO.out.alloc _) _ _ 1 1 [.int .i64 z] rfl (bJ.new wr [.int .i64 z] 3 1 1 rfl (by unfold maxLen;omega)) (by simp[Value.oneCell']) (by omega) (by omega) (Nat.zero_le _) ?_;intro v4 w4 hown4 hg4 yO;have jB:=af (Lr.out v4 w4 hown4 hg4 yO))
     go_wp2
     go_roundw
     case rel=>exact⟨k+1,_,ys++[z],by omega,by go_num,rfl,by simp;omega,iO,jB.out⟩
     case measure=>simp[intOf];omega
   ·obtain rfl:k=n:=by omega
    have HY:Bx (vF ws=some ys):=Bx.mk (by rw[HP.out,←HM.out,gW (by rw[HN.out];omega)]);go_wp2;exact bodyPost_ret (v:=.tuple #[_,.bool true]) (by simp[results,Tryz.results168,go_sem]) rfl (gX.yes HY.out (HS.out.pick [1] (by decide) rfl rfl))
theorem QG (c:UInt8) (a b:List UInt8) (s:ByteArray) (h:s.data.toList=a++c::b):b.length+1≤s.size:=by
 rw[Lib.size_eq s,h];simp
def QH (t:aB):Option (List Int)→Int
 |some p=>if iW t p then 1 else -1
 |none=>-1
def xU (s k r:ByteArray) (m:Bool):Prop:=∀w,Calls Tryz.prog 93 #[.string s,.string ⟨#[32]⟩] w fun e w'=>e= .returned (.tuple #[.string k,.string r,.bool m])∧∃n,w'=w.drewN n
theorem BD (v:Value) (t:aB) (s r:ByteArray) (m:Bool) (o:Option (List Int)) (w:World) (h:oW w w.heap.size v t) (hok:aK t=true)
  (hc:xU s ⟨#[112,108,97,110]⟩ r m) (hp:∀w,Calls Tryz.prog 168 #[.string r,.bool m] w (gX o w))
  (hv:bY t s.data.toList=QH t o):
  Calls Tryz.prog 118 #[v,.string s] w fun e w'=>e= .returned (.int .i64 (bY t s.data.toList))∧Below w.heap.size w w':=by
 rw[hv];have h':=h;obtain⟨G,gn,gc,G',n',c',rfl,hg,hgs,hds,hst⟩:=h;have aS:=af ((St.refl w).alloc #[.int .i64 t.start,.slice G gn gc,.slice G' n' c'] 26);have HT:=af h';have bG:=af hok;have HC:=af hc;have HP:=af hp;clear h' hok hds hg hgs hst hc hp hv;go_enter Tryz.func118,Tryz.ntmps118
 go_wp2_with fail
 refine(HC.out _).mono ?_;rintro e w1 ⟨rfl,q,rfl⟩;have bf:=af (aS.out.quiet (below_drewN (ai _ _) q));clear aS
 go_wp2_with fail
 refine(HP.out _).mono ?_;rintro e w2 ⟨v2,ds,rfl,hds,s2⟩;have HS2:=af (bf.out.call s2);clear s2 bf;have q2:=HS2.out.cells 0 rfl
 cases o with
 |none=>
  simp only[Option.isSome_none,QH];go_wp2;go_ret;exact⟨rfl,HS2.out.below⟩
 |some p=>
  obtain rfl:=hds p rfl;obtain⟨A,c,rfl,Ry⟩:=HS2.out.uj 1 rfl;have HRI:=af Ry;obtain⟨b,hb⟩:∃b,iW t ds=b:=⟨_,rfl⟩;have HB:=Bx.mk hb;clear Ry hds;simp only[Option.isSome_some];clear hb
  go_wp2_with fail
  refine(MK _ t A _ c ds _ (HT.out.up HS2.out.below) HRI.out bG.out).mono ?_;rw[HB.out];rintro e w3 ⟨rfl,hb3⟩;have HB3:=af (HS2.out.quiet hb3).below;clear hb3
  cases b with
  |false=>
   go_wp2;go_ret;exact⟨aP (by simp[QH,HB.out]),HB3.out⟩
  |true=>
   go_wp2;go_ret;exact⟨aP (by simp[QH,HB.out]),HB3.out⟩
def Jy (t:aB):Option Int→Int
 |some z=>if eF t z then 0 else -1
 |none=>-1
def aaF (t:aB):Option Nat→Int
 |some f=>if kE t f then 0 else -1
 |none=>-1
theorem F6 (v:Value) (t:aB) (s:ByteArray) (b:List UInt8) (w:World) (h:oW w w.heap.size v t) (hok:aK t=true) (he:rQ w)
  (hs:s.size≤9223372036854775807) (hd:s.data.toList=jk++32::b):
  Calls Tryz.prog 118 #[v,.string s] w fun e w'=>e= .returned (.int .i64 (bY t s.data.toList))∧Below w.heap.size w w':=by
 have hc:xU s ⟨jk.toArray⟩ ⟨b.toArray⟩ true:=fun w=>OZ s 32 jk b w (by decide) hd hs
 have hbs:=QG 32 jk b s hd;have hrd:=fun w=>nD ⟨b.toArray⟩ 10 w (by decide) (by show b.toArray.size≤_;rw[List.size_toArray];omega)
 rw[show bY t s.data.toList=Jy t (rdNum 10 b) from Jz hd];rw[show(⟨b.toArray⟩:ByteArray).data.toList=b from rfl] at hrd;obtain⟨o,ho⟩:∃o,rdNum 10 b=o:=⟨_,rfl⟩;rw[ho] at hrd ⊢
 have h':=h;obtain⟨G,gn,gc,G',n',c',rfl,hg,hgs,hds,hst⟩:=h;have aS:=af ((St.refl w).alloc #[.int .i64 t.start,.slice G gn gc,.slice G' n' c'] 26);have HT:=af h';have bG:=af hok;have HC:=af hc;have zY:=af hrd;have HE:=af he;clear h' hok hds hg hgs hst hc hrd ho hbs hd hs he;go_enter Tryz.func118,Tryz.ntmps118
 go_wp2_with fail
 refine(HC.out _).mono ?_;rintro e w1 ⟨rfl,q,rfl⟩;have bf:=af (aS.out.quiet (below_drewN (ai _ _) q));clear aS
 go_wp2_with fail
 refine(zY.out _).mono ?_;rintro e w2 ⟨he2,rfl⟩
 unfold VB at he2
 subst he2;have q2:=bf.out.cells 0 rfl
 cases o with
 |none=>
  simp only[Option.isSome_none,Option.getD_none];go_wp2;go_ret;exact⟨rfl,bf.out.below⟩
 |some z=>
  simp only[Option.isSome_some,Option.getD_some];have hcl:=fun w' (h:Below w.heap.size w w')=>F7 _ t z w' (HT.out.up h) (HE.out.up h) bG.out
  obtain⟨b2,hb2⟩:∃b2,eF t z=b2:=⟨_,rfl⟩;rw[hb2] at hcl;have Ud:=af hcl;have HV:=Bx.mk hb2;clear hcl hb2
  go_wp2_with fail
  refine(Ud.out _ bf.out.below).mono ?_;rintro e w3 ⟨rfl,hb3⟩;have HB3:=af (bf.out.quiet hb3).below;clear hb3
  cases b2 with
  |false=>
   go_wp2;go_ret;exact⟨aP (by simp[Jy,HV.out]),HB3.out⟩
  |true=>
   go_wp2;go_ret;exact⟨aP (by simp[Jy,HV.out]),HB3.out⟩
theorem Pn (v:Value) (t:aB) (s:ByteArray) (b:List UInt8) (w:World) (h:oW w w.heap.size v t) (hok:aK t=true)
  (hs:s.size≤9223372036854775807) (hd:s.data.toList=sumW++32::b):
  Calls Tryz.prog 118 #[v,.string s] w fun e w'=>e= .returned (.int .i64 (bY t s.data.toList))∧Below w.heap.size w w':=by
 have hc:xU s ⟨sumW.toArray⟩ ⟨b.toArray⟩ true:=fun w=>OZ s 32 sumW b w (by decide) hd hs
 have hrd:=fun w=>Cb ⟨b.toArray⟩ w
 rw[show bY t s.data.toList=aaF t (uh b) from Tf hd];rw[show(⟨b.toArray⟩:ByteArray).data.toList=b from rfl] at hrd;obtain⟨o,ho⟩:∃o,uh b=o:=⟨_,rfl⟩;rw[ho] at hrd ⊢
 have h':=h;obtain⟨G,gn,gc,G',n',c',rfl,hg,hgs,hds,hst⟩:=h;have aS:=af ((St.refl w).alloc #[.int .i64 t.start,.slice G gn gc,.slice G' n' c'] 26);have HT:=af h';have bG:=af hok;have HC:=af hc;have HO:=Bx.mk ho;have zY:=af hrd;clear h' hok hds hg hgs hst hc hrd ho hd hs;go_enter Tryz.func118,Tryz.ntmps118
 go_wp2_with fail
 refine(HC.out _).mono ?_;rintro e w1 ⟨rfl,q,rfl⟩;have bf:=af (aS.out.quiet (below_drewN (ai _ _) q));clear aS
 go_wp2_with fail
 refine(zY.out _).mono ?_;rintro e w2 ⟨rfl,hb2⟩;have HS2:=af (bf.out.quiet hb2);clear hb2 bf;have q2:=HS2.out.cells 0 rfl
 cases o with
 |none=>
  simp only[Option.isSome_none,Option.getD_none];go_wp2;go_ret;exact⟨rfl,HS2.out.below⟩
 |some f=>
  simp only[Option.isSome_some,Option.getD_some];have hf:=(rO HO.out).1;have hcl:=fun w' (h:Below w.heap.size w w')=>ED _ t f hf w' (HT.out.up h) bG.out
  obtain⟨b2,hb2⟩:∃b2,kE t f=b2:=⟨_,rfl⟩;rw[hb2] at hcl;have Ud:=af hcl;have HV:=Bx.mk hb2;clear hcl hb2 hf
  go_wp2_with fail
  refine(Ud.out _ HS2.out.below).mono ?_;rintro e w3 ⟨rfl,hb3⟩;have HB3:=af (HS2.out.quiet hb3).below;clear hb3
  cases b2 with
  |false=>
   go_wp2;go_ret;exact⟨aP (by simp[aaF,HV.out]),HB3.out⟩
  |true=>
   go_wp2;go_ret;exact⟨aP (by simp[aaF,HV.out]),HB3.out⟩
theorem yX (v:Value) (t:aB) (s k r:ByteArray) (m:Bool) (w:World) (h:oW w w.heap.size v t)
  (hc:xU s k r m) (h1:k.data.toList≠kM) (h2:k.data.toList≠jk∨m=false) (h3:k.data.toList≠sumW∨m=false) (hv:bY t s.data.toList= -1):
  Calls Tryz.prog 118 #[v,.string s] w fun e w'=>e= .returned (.int .i64 (bY t s.data.toList))∧Below w.heap.size w w':=by
 rw[hv];obtain⟨G,gn,gc,G',n',c',rfl,hg,hgs,hds,hst⟩:=h;have aS:=af ((St.refl w).alloc #[.int .i64 t.start,.slice G gn gc,.slice G' n' c'] 26);have HC:=af hc
 have b1:(k.toList == [112,108,97,110])=false:=by
  rw[dH,Lib.toList_data];intro h;exact h1 (beq_iff_eq.1 h)
 obtain⟨d2,b2⟩:∃d,(k.toList == [99,108,111,115,101,100])=d:=⟨_,rfl⟩;obtain⟨d3,b3⟩:∃d,(k.toList == [115,117,109])=d:=⟨_,rfl⟩;have e2:d2=false∨m=false:=h2.imp (fun hh=>by rw[←b2,dH,Lib.toList_data];intro h;exact hh (beq_iff_eq.1 h)) id;have e3:d3=false∨m=false:=h3.imp (fun hh=>by rw[←b3,dH,Lib.toList_data];intro h;exact hh (beq_iff_eq.1 h)) id;have HE2:=af e2;have HE3:=af e3;clear hds hg hgs hst hc h1 h2 h3 hv e2 e3;go_enter Tryz.func118,Tryz.ntmps118
 go_wp2_with fail
 refine(HC.out _).mono ?_;rintro e w1 ⟨rfl,q,rfl⟩;have bf:=af (aS.out.quiet (below_drewN (ai _ _) q));clear aS
 cases m with
 |false=>
  cases d2<;>cases d3
  all_goals
   go_wp2;go_ret;exact⟨rfl,bf.out.below⟩
 |true=>
  obtain rfl:d2=false:=HE2.out.resolve_right (by simp);obtain rfl:d3=false:=HE3.out.resolve_right (by simp);go_wp2;go_ret;exact⟨rfl,bf.out.below⟩
theorem BZ (v:Value) (t:aB) (s:ByteArray) (w:World) (h:oW w w.heap.size v t) (hok:aK t=true) (he:rQ w) (hs:s.size<4294967281):
  Calls Tryz.prog 118 #[v,.string s] w fun e w'=>e= .returned (.int .i64 (bY t s.data.toList))∧Below w.heap.size w w':=by
 have h6:t.ay.length≤6:=(aJ t hok).2.2.1;have hm:s.size≤9223372036854775807:=by omega
 by_cases hb:(32:UInt8)∈s.data.toList
 ·obtain⟨a,b,hab,ha⟩:=EF hb;have hcut:fQ 32 [] s.data.toList=a::fQ 32 [] b:=by rw[hab,oP ha,List.nil_append]
  have hc:xU s ⟨a.toArray⟩ ⟨b.toArray⟩ true:=fun w=>OZ s 32 a b w ha hab hm
  have hbs:=QG 32 a b s hab
  by_cases h1:a=kM
  ·subst h1;exact BD v t s _ true _ w h hok hc (fun w=>Jv _ w (by show b.toArray.size<_;rw[List.size_toArray];omega)) (EG h6 hcut)
  by_cases h2:a=jk
  ·subst h2;exact F6 v t s b w h hok he hm hab
  by_cases h3:a=sumW
  ·subst h3;exact Pn v t s b w h hok hm hab
  exact yX v t s _ _ true w h hc h1 (.inl h2) (.inl h3) (BF hcut h1 (.inl h2) (.inl h3))
 ·have hcut:fQ 32 [] s.data.toList=[s.data.toList]:=by rw[nX hb,List.nil_append]
  have hc:xU s s .empty false:=fun w=>VE s 32 w hb
  by_cases h1:s.data.toList=kM
  ·have hs':=ba_eq h1;have hv:=EG (t:=t) h6 (hcut.trans (by rw[h1]));exact BD v t s .empty false (some []) w h hok (by have hc':=hc;unfold xU at hc' ⊢;intro w;have:=hc' w;rw[hs'] at this ⊢;exact this) (fun w=>MH _ w) hv
  ·exact yX v t s s .empty false w h hc h1 (.inr rfl) (.inr rfl) (BF hcut h1 (.inr rfl) (.inr rfl))
end Go.Proofs.YtkmcengmglgdeaaGreatDoor
