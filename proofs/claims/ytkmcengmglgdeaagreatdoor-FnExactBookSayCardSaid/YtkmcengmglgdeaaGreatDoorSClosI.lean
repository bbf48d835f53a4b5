/- Joined texts: ClosI, ClosS, Turns. -/
import Derived.Test.YtkmcengmglgdeaaGreatDoorSJourP
import Derived.Test.YtkmcengmglgdeaaGreatDoorSPerm
import Derived.Test.YtkmcengmglgdeaaGreatDoorSTaskTS
import Derived.Test.YtkmcengmglgdeaaGreatDoorSBack
import Derived.Test.YtkmcengmglgdeaaGreatDoorSDraw
import Derived.Test.YtkmcengmglgdeaaGreatDoorSBValid
import Derived.Test.YtkmcengmglgdeaaGreatDoorSLaid

namespace Go.Proofs.YtkmcengmglgdeaaGreatDoor
set_option linter.unusedVariables false
set_option linter.unusedSimpArgs false
set_option maxRecDepth 100000
set_option maxHeartbeats 8000000
open Go.ChangeShapes Go.WideShapes Go.ChangeAt Go.RowKit
def Xd (ds:List aj) (S:Nat) (e:Ending):Prop:=uP ds S∧e= .returned .nilIface∨¬uP ds S∧∃a b:Nat,a<32∧b<32∧e= .returned (.iface 189 (.agg #[.int .i64 a,.int .i64 b]))
theorem Bf (v:Value) (t:aB) (M:Nat) (w:World) (h:nI w w.heap.size v t) (hok:aK t=true) (hM:M<4294967296):
  Calls Tryz.prog 197 #[v,.int .i64 (M:Int)] w fun e w'=>Xd t.ax M e∧Below w.heap.size w w':=by
 have h':=h;obtain⟨G,gn,gc,G',n',c',rfl,-,-,-,-⟩:=h;have aQ:=af ((St.refl w).alloc #[.int .i64 t.start,.slice G gn gc,.slice G' n' c'] 26);have HT:=af h';obtain⟨-,-,oq,iq⟩:=aJ t hok;have gU:=af iq;clear iq;go_enter Tryz.func197,Tryz.ntmps197
 go_wp2_with fail
 refine(qB _ t _ (HT.out.up aQ.out.below) hok).mono ?_;rintro e w3 ⟨rv,rfl,s3⟩;obtain⟨n,hn⟩:∃n,t.ax.length=n:=⟨_,rfl⟩;obtain⟨RA,RC,X4,-⟩:=s3.lT 0 rfl;rw[hn] at X4 oq;subst X4;obtain⟨ds,hds⟩:∃ds,t.ax=ds:=⟨_,rfl⟩;have HDE:=Bx.mk hds;rw[hds] at s3 hn gU;have HL:=af hn;have X5:Hid (∀W L,St w W (ou (.slice RA n RC) ds::L)→bQ W W.heap.size 32 RA n RC (ints (xP ds))):=af fun W L h=>h.Io (n:=n) 0 (by rw[←HL.out];rfl)
 have dV:Hid (St w w3 [ou (.slice RA n RC) ds]):=af (aQ.out.call s3).tl;clear s3 hn h' hok hds aQ HT;go_wp2
 go_loopw [12] (fun i wr=>∃k:Nat,k≤n∧i= .int .i64 k∧Hid (sD ds M k 0)∧St w wr [ou (.slice RA n RC) ds]) (fun i _=>n-(intOf i).toNat)
 case atStart=>exact⟨0,by omega,rfl,af (Rz _ _),dV.out⟩
 case round=>
  clear dV;obtain⟨k,hk,rfl,HM,S⟩:=hrel;have HS:=af S;clear S
  by_cases hlt:k<n
  ·obtain⟨b,off,d,rfl,hb,hdk,hrow⟩:=BB (X5.out _ _ HS.out) HL.out hlt;have SS:Hid (∀j v,(rowOf d)[j]? =some v→wr.cell? ⟨b,off+k*32+j,none⟩=some v):=af hrow;have HDK:=af hdk;clear hrow hdk
   go_wp2_with (first
    | (refine gB 108 (.tmp 15) rfl rfl 3 32 oZ b (off+k*32) (rowOf d) rfl (by rw[fM];exact kH) SS.out ?_)
    | (refine jB 108 (.tmp 6) (.tmp 16) rfl rfl _ (rowOf d) rfl rfl (by rw[fM];exact kH) (by rw[fM];rfl) (by simp[rowOf,Value.oneCell']) ?_)
    | (refine gB 108 (.tmp 6) rfl rfl 3 32 oZ wr.heap.size 0 (rowOf d) rfl (by rw[fM];exact kH) (by simp) ?_))
   have L8:=af (gU.out d (bU HDK.out));have bG:Hid (St w (wr.alloc (.cells (rowOf d).toArray 108)) [ou (.slice (some ⟨b,off,none⟩) n RC) ds]):=af ((HS.out.alloc (rowOf d).toArray 108).pick [0] (by decide) rfl rfl);have Ae:=af (uz d);have HLEN:=af (fM d)
   generalize rowOf d=R at Ae HLEN bG ⊢
   clear SS
   go_loopw [18] (fun i wr=>∃m:Nat,m≤32∧i= .int .i64 m∧Hid (sD ds M k m)∧St w wr [ou (.slice (some ⟨b,off,none⟩) n RC) ds]) (fun i _=>32-(intOf i).toNat)
   case atStart=>exact⟨0,by omega,rfl,HM,bG.out⟩
   case round=>
    clear HM bG HS;obtain⟨m,wQ,rfl,HM,S⟩:=hrel;have HS:=af S;clear S
    by_cases hm:m<32
    ·obtain⟨o,ho⟩:∃o,aX d m=o:=⟨_,rfl⟩;have hix:=Ae.out m hm;rw[ho] at hix;have O9:=fun w=>qA (P:=Tryz.prog) (w:=w) (xs:=R) (k:=m) (v:=.int .i64 (opt o)) oZ hix HLEN.out Ij Tryz.underlying3
     have HO:=af ho;have hbit:=and_one M m (by omega);clear ho
     by_cases hs1:bit M m=1
     case neg=>
      have hs0:bit M m=0:=by have:=jI M m;omega
      have gY:=af (zB HM.out HDK.out fun q _ h1=>absurd h1 hs1);rw[hs0] at hbit;clear hs1 hs0;go_wp2
      go_roundw
      case rel=>exact⟨m+1,by omega,by go_num,gY,HS.out⟩
      case measure=>simp[intOf];omega
     rw[hs1] at hbit
     cases o with
     |none=>
      have gY:=af (zB HM.out HDK.out fun q e _=>by rw[HO.out] at e;cases e);simp only[opt] at O9;clear hs1;go_wp2
      go_roundw
      case rel=>exact⟨m+1,by omega,by go_num,gY,HS.out⟩
      case measure=>simp[intOf];omega
     |some q=>
      have hq:=gu d m q L8.out hm HO.out;simp only[opt] at O9;have hbq:=and_one M q (by omega)
      by_cases hq1:bit M q=1
      ·have gY:=af (zB HM.out HDK.out fun q' e _=>by rw[HO.out] at e;cases e;exact hq1);rw[hq1] at hbq;clear hs1 hq1;go_wp2
       go_roundw
       case rel=>exact⟨m+1,by omega,by go_num,gY,HS.out⟩
       case measure=>simp[intOf];omega
      ·have hq0:bit M q=0:=by have:=jI M q;omega
       have HF:=Bx.mk (U7 hm HDK.out HO.out hs1 hq0);rw[hq0] at hbq;clear hs1 hq1 hq0;go_wp2;go_ret;exact⟨by rw[HDE.out];exact Or.inr ⟨HF.out,k,m,by omega,hm,rfl⟩,HS.out.below⟩
    ·have gY:Hid (sD ds M (k+1) 0):=af (RD (by rw[←show m=32 by omega];exact HM.out));go_wp2
     go_roundw
     case rel=>exact⟨k+1,by omega,by go_num,gY,HS.out⟩
     case measure=>simp[intOf];omega
  ·have HF:Hid (uP ds M):=af (U6 (by rw[HL.out,←show k=n by omega];exact HM.out));go_wp2;go_ret;exact⟨by rw[HDE.out];exact Or.inl ⟨HF.out,rfl⟩,HS.out.below⟩
theorem yx (z:Int) (w:World):Calls Tryz.prog 195 #[.int .i64 z] w fun e w'=>e= .returned (.bool (decide (0≤z∧z<4294967296)))∧w=w':=by
 go_enter Tryz.func195,Tryz.ntmps195;go_wp2
 all_goals go_ret
 all_goals refine⟨bf ?_,rfl⟩
 all_goals simp
 all_goals omega
theorem EW (v:Value) (t:aB) (z:Int) (w:World) (h:nI w w.heap.size v t) (he:qV w) (hok:aK t=true):
  Calls Tryz.prog 170 #[v,.int .i64 z] w fun e w'=>e= .returned (.bool (dQ t z))∧Below w.heap.size w w':=by
 have h':=h;obtain⟨G,gn,gc,G',n',c',rfl,hg,hgs,hds,hst⟩:=h;have aQ:=af ((St.refl w).alloc #[.int .i64 t.start,.slice G gn gc,.slice G' n' c'] 26);have HT:=af h';have HG:=af hg;have HE:=af he;have bC:=af hok;obtain⟨pK,pV,-,-⟩:=aJ t hok;have Nu:=Bx.mk (fQ t.goal pV);obtain⟨st,hst'⟩:∃x,t.start=x:=⟨_,rfl⟩;have afw:=Bx.mk hst';rw[hst'] at pK HT aQ ⊢
 obtain⟨s0,rfl⟩:=bI pK.1;have lQ:s0<32:=by omega
 have yN:Hid (t.start.toNat=s0):=af (by rw[hst'];simp);clear h' hok hg hds he pV hst' pK hst
 by_cases hz:0≤z∧z<4294967296
 case neg=>
  have HF:=Bx.mk (su (t:=t) hz);have hz':=decide_eq_false hz;go_enter Tryz.func170,Tryz.ntmps170
  go_wp2_with fail
  refine(bV _ t _ (HT.out.up aQ.out.below)).mono ?_;rw[bC.out];rintro e w1 ⟨rfl,hb1⟩;have HB:=af (aQ.out.quiet hb1).below;clear hb1
  go_wp2_with fail
  refine(yx z _).mono ?_;rw[hz'];rintro e w2 ⟨rfl,rfl⟩;clear hz hz';go_wp2;go_ret;exact⟨by rw[HF.out];rfl,HB.out⟩
 have hz':=Bx.mk (decide_eq_true hz);obtain⟨M,rfl⟩:=bI hz.1;have hM:M<4294967296:=by omega
 have zD:=af (DT (t:=t) bC.out hM);rw[yN.out] at zD;have hbit:=and_one M s0 (by omega);obtain⟨N0,hN0⟩:∃N,kU t.goal=N:=⟨_,rfl⟩;have Wq:N0<4294967296:=by rw[←hN0];exact cZ _
 rw[hN0] at Nu zD;clear hN0 hz;go_enter Tryz.func170,Tryz.ntmps170
 go_wp2_with fail
 refine(bV _ t _ (HT.out.up aQ.out.below)).mono ?_;rw[bC.out];rintro e w1 ⟨rfl,hb1⟩;have bG:=af (aQ.out.quiet hb1);clear hb1 aQ
 go_wp2_with fail
 refine(yx _ _).mono ?_;rw[hz'.out];rintro e w2 ⟨rfl,rfl⟩;have q1:=bG.out.cells 0 rfl
 by_cases hb1:bit M s0=1
 case neg=>
  have hb0:bit M s0=0:=by have:=jI M s0;omega
  have HF:Hid (dQ t (M:Int)=false):=af (by
   cases hc:dQ t (M:Int) with
   |false=>rfl
   |true=>exact absurd (zD.out.1 hc).1 hb1)
  rw[hb0] at hbit;clear hb1 hb0;go_wp2;go_ret;exact⟨by rw[HF.out];rfl,bG.out.below⟩
 rw[hb1] at hbit
 go_wp2_with fail
 refine(mG G gn gc t.goal _ (HG.out.up bG.out.below)).mono ?_;rw[Nu.out];rintro e w3 ⟨rfl,hb3⟩;have dV:=af (bG.out.quiet hb3);clear hb3 q1 bG;have hand:=jE M N0 (by omega) (by omega)
 by_cases ha:M &&& N0=0
 case neg=>
  have HF:Hid (dQ t (M:Int)=false):=af (by
   cases hc:dQ t (M:Int) with
   |false=>rfl
   |true=>exact absurd (zD.out.1 hc).2.1 ha)
  have hne:((((M &&& N0:Nat):Int)) != 0)=true:=by rw[bne_iff_ne];omega
  generalize M &&& N0=A at hand hne ha
  clear ha hb1;go_wp2;go_ret;exact⟨by rw[HF.out];rfl,dV.out.below⟩
 rw[ha] at hand;have q3:=dV.out.cells 0 rfl;obtain⟨g5,hg5⟩:∃g5,w3.heap.size=g5:=⟨_,rfl⟩;have hgw:w.heap.size≤g5:=by rw[←hg5];exact dV.out.below.size
 have iM:=af (dV.out.alloc #[.int .i64 0,.int .i64 0] 189);have ab1:Hid (dQ t (M:Int)=true↔uP t.ax M):=af (by rw[zD.out];exact⟨fun h=>h.2.2,fun h=>⟨hb1,ha,h⟩⟩);have q4:=iM.out.cells 0 rfl;clear hb1 ha zD
 go_wp2_with fail
 try rw[hg5]
 rw[hg5] at iM
 generalize w3.alloc (.cells #[.int .i64 0,.int .i64 0] 189)=wa at iM q4 ⊢
 refine(Bf _ t M _ (HT.out.up iM.out.below) bC.out hM).mono ?_;rintro e w5 ⟨he4,hb4⟩;have fV:=af (iM.out.quiet hb4);clear hb4 q3 q4 iM dV
 rcases he4 with⟨hu,rfl⟩ | ⟨hu,a,b,ha,hb,rfl⟩
 ·have HF:=Bx.mk (ab1.out.2 hu);clear hu
  go_wp2_with fail
  refine(as_nil _ _).mono ?_;rintro e w6 ⟨rfl,rfl⟩;go_wp2;go_ret;exact⟨by rw[HF.out];rfl,fV.out.below⟩
 ·have HF:Hid (dQ t (M:Int)=false):=af (by
   cases hc:dQ t (M:Int) with
   |false=>rfl
   |true=>exact absurd (ab1.out.1 hc) hu)
  clear hu
  go_wp2_with fail
  refine(OC _ _ g5 w.heap.size _ _ _ (HE.out.up fV.out.below) (fV.out.blk 1 rfl) hgw).mono ?_;rintro e w6 ⟨rfl,hb5⟩;have HB:=af (fV.out.below.trans hb5);clear hb5;go_wp2;go_ret;exact⟨by rw[HF.out];rfl,HB.out⟩
theorem DW (v:Value) (t:aB) (z:Int) (w:World) (h:nI w w.heap.size v t) (hok:aK t=true) (hz:¬(0≤z∧z≤4294967295)):
  Calls Tryz.prog 160 #[v,.int .i64 z] w fun e w'=>e= .returned (.int .i64 (-1))∧Below w.heap.size w w':=by
 have h':=h;obtain⟨G,gn,gc,G',n',c',rfl,hg,hgs,hds,hst⟩:=h;have aQ:=af ((St.refl w).alloc #[.int .i64 t.start,.slice G gn gc,.slice G' n' c'] 26);have HT:=af h';have bC:=af hok;clear h' hok hg hds;go_enter Tryz.func160,Tryz.ntmps160
 go_wp2_with fail
 refine(bP _ t _ (HT.out.up aQ.out.below)).mono ?_;rw[bC.out];rintro e w1 ⟨rfl,hb1⟩;have HB:=af (aQ.out.quiet hb1).below;clear hb1
 go_wp2_with fail
 refine(lZ z 0 4294967295 _ hz).mono ?_;rintro e w2 ⟨rfl,rfl⟩;go_wp2;go_ret;exact⟨rfl,HB.out⟩
theorem E8 (v:Value) (t:aB) (z:Int) (w:World) (h:nI w w.heap.size v t) (hok:aK t=true):
  Calls Tryz.prog 129 #[v,.int .i64 z] w fun e w'=>e= .returned (.bool (dQ t z))∧Below w.heap.size w w':=by
 have h':=h;obtain⟨G,gn,gc,G',n',c',rfl,hg,hgs,hds,hst⟩:=h;have aQ:=af ((St.refl w).alloc #[.int .i64 t.start,.slice G gn gc,.slice G' n' c'] 26);have HT:=af h';have HG:=af hg;have HGN:=af hgs;have bC:=af hok;obtain⟨pK,pV,-,-⟩:=aJ t hok;have Nu:=Bx.mk (fQ t.goal pV);obtain⟨st,hst'⟩:∃x,t.start=x:=⟨_,rfl⟩;rw[hst'] at pK HT aQ ⊢
 obtain⟨s0,rfl⟩:=bI pK.1;have lQ:s0<32:=by omega
 have yN:Hid (t.start.toNat=s0):=af (by rw[hst'];simp);have q0:=aQ.out.cells 0 rfl;clear h' hok hg hds pV hst' pK hst hgs
 by_cases hz:0≤z∧z<4294967296
 case neg=>
  have HF:=Bx.mk (su (t:=t) hz);go_enter Tryz.func129,Tryz.ntmps129
  go_wp2_with fail
  refine(DW _ t z _ (HT.out.up aQ.out.below) bC.out (by omega)).mono ?_;rintro e w1 ⟨rfl,hb1⟩;have HB:=af (aQ.out.quiet hb1).below;clear hb1 q0 hz;go_wp2;go_ret;exact⟨by rw[HF.out];rfl,HB.out⟩
 obtain⟨M,rfl⟩:=bI hz.1;have hM:M<4294967296:=by omega
 have zD:=af (DT (t:=t) bC.out hM);have yL:=af (EX (t:=t) bC.out hM);rw[yN.out] at zD;obtain⟨N1,hN1⟩:∃N,aN (kV t.ax (fD M)) 32=N:=⟨_,rfl⟩;have afv:N1<4294967296:=by rw[←hN1];exact cZ _
 have HN1:=Bx.mk hN1;rw[hN1] at yL;obtain⟨N0,hN0⟩:∃N,kU t.goal=N:=⟨_,rfl⟩;have Wq:N0<4294967296:=by rw[←hN0];exact cZ _
 rw[hN0] at Nu zD;clear hN0 hz hN1;go_enter Tryz.func129,Tryz.ntmps129
 go_wp2_with fail
 refine(sU _ t M _ (HT.out.up aQ.out.below) bC.out hM).mono ?_;rw[HN1.out];rintro e w1 ⟨rfl,hb1⟩;have bG:=af (aQ.out.quiet hb1);clear hb1 q0 aQ;have q1:=bG.out.cells 0 rfl;have hge:(0:Int)≤(N1:Int):=by omega
 go_wp2_with fail
 refine(jO M s0 (by omega) _).mono ?_
 by_cases hb1:bit M s0=1
 case neg=>
  have hb0:bit M s0=0:=by have:=jI M s0;omega
  have HF:Hid (dQ t (M:Int)=false):=af (by
   cases hc:dQ t (M:Int) with
   |false=>rfl
   |true=>exact absurd (zD.out.1 hc).1 hb1)
  rw[hb0];rintro e w2 ⟨rfl,rfl⟩;clear hb1 hb0;go_wp2;go_ret;exact⟨by rw[HF.out];rfl,bG.out.below⟩
 rw[hb1];rintro e w2 ⟨rfl,rfl⟩
 go_wp2_with fail
 refine(jK N1 M (by omega) _).mono ?_
 by_cases hc:N1 &&& M=N1
 case neg=>
  have HF:Hid (dQ t (M:Int)=false):=af (by
   cases h:dQ t (M:Int) with
   |false=>rfl
   |true=>exact absurd (yL.out.2 (zD.out.1 h).2.2) hc)
  have hne:((((N1 &&& M:Nat):Int)) == (N1:Int))=false:=beq_false_of_ne (by omega)
  generalize N1 &&& M=A at hne hc ⊢
  rintro e w2 ⟨rfl,rfl⟩;clear hc hb1;go_wp2;go_ret;exact⟨by rw[HF.out];rfl,bG.out.below⟩
 rw[hc];rintro e w2 ⟨rfl,rfl⟩
 go_wp2_with fail
 refine(oW G gn gc t.goal _ (HG.out.up bG.out.below) HGN.out).mono ?_;rw[Nu.out];rintro e w3 ⟨rfl,hb3⟩;have dV:=af (bG.out.quiet hb3);clear hb3 q1 bG
 go_wp2_with fail
 refine(jK M N0 (by omega) _).mono ?_
 by_cases ha:M &&& N0=0
 ·have HF:Hid (dQ t (M:Int)=true):=af (zD.out.2 ⟨hb1,ha,yL.out.1 hc⟩);rw[ha];rintro e w4 ⟨rfl,rfl⟩;clear ha hb1 hc;go_wp2;go_ret;exact⟨by rw[HF.out];rfl,dV.out.below⟩
 ·have HF:Hid (dQ t (M:Int)=false):=af (by
   cases h:dQ t (M:Int) with
   |false=>rfl
   |true=>exact absurd (zD.out.1 h).2.1 ha)
  have hne:((((M &&& N0:Nat):Int)) == 0)=false:=beq_false_of_ne (by omega)
  generalize M &&& N0=A at hne ha ⊢
  rintro e w4 ⟨rfl,rfl⟩;clear ha hb1 hc;go_wp2;go_ret;exact⟨by rw[HF.out];rfl,dV.out.below⟩
theorem Lm (v:Value) (t:aB) (A:Option Addr) (n c:Nat) (p:List Int) (w:World) (h:nI w w.heap.size v t) (hp:iO .i64 w w.heap.size A n c p) (hok:aK t=true):
  Calls Tryz.prog 128 #[v,.slice A n c] w fun e w'=>e= .returned (.bool (iL t p))∧Below w.heap.size w w':=by
 have h':=h;obtain⟨G,gn,gc,G',n',c',rfl,hg,hgs,hds,hst⟩:=h;have aQ:=af ((St.refl w).alloc #[.int .i64 t.start,.slice G gn gc,.slice G' n' c'] 26);have HT:=af h';have HG:=af hg;have AU:=af hp;have F7:=af (aJ t hok).2.1;have q0:=aQ.out.cells 0 rfl;obtain⟨z,hz⟩:∃z,aF t t.start p=z:=⟨_,rfl⟩;have HZ:=Bx.mk hz;have HP:Hid (iL t p=(decide (0≤z)&&aH t.goal z.toNat)):=af (by unfold iL;rw[hz]);have HZB:Hid (0≤z→z<32):=af (fun h0=>by have:=((eF t t.start p).1 (by rw[hz];exact h0)).2.2.2;rwa[hz] at this);clear h' hok hg hds hst hp hz;go_enter Tryz.func128,Tryz.ntmps128
 go_wp2_with fail
 refine(jh _ t _ A n c p _ (HT.out.up aQ.out.below) (AU.out.up aQ.out.below)).mono ?_;rw[HZ.out];rintro e w1 ⟨rfl,hb1⟩;have bG:=af (aQ.out.quiet hb1);clear hb1 q0 aQ;have q1:=bG.out.cells 0 rfl
 by_cases h0:0≤z
 ·obtain⟨s,rfl⟩:=bI h0;have hs:s<32:=by have:=HZB.out h0;omega
  have HF:Hid (iL t p=aH t.goal s):=af (by rw[HP.out,decide_eq_true h0,dD];rfl);obtain⟨gb,hgb⟩:∃b,aH t.goal s=b:=⟨_,rfl⟩;rw[hgb] at HF;have SY:=Bx.mk hgb;clear hgb
  go_wp2_with fail
  refine(kE G gn gc t.goal s _ (HG.out.up bG.out.below) F7.out hs).mono ?_;rw[SY.out];rintro e w2 ⟨rfl,hb2⟩;have HS2:=af (bG.out.quiet hb2);clear hb2;go_wp2;go_ret;exact⟨by rw[HF.out];rfl,HS2.out.below⟩
 ·have HF:Hid (iL t p=false):=af (by rw[HP.out,decide_eq_false h0];rfl);go_wp2;go_ret;exact⟨by rw[HF.out];rfl,bG.out.below⟩
theorem KX (v:Value) (t:aB) (A:Option Addr) (n c:Nat) (p:List Int) (w:World) (h:nI w w.heap.size v t) (hp:iO .i64 w w.heap.size A n c p) (hok:aK t=true):
  Calls Tryz.prog 169 #[v,.slice A n c] w fun e w'=>e= .returned (.bool (iL t p))∧Below w.heap.size w w':=by
 have h':=h;obtain⟨G,gn,gc,G',n',c',rfl,hg,hgs,hds,hst⟩:=h;have aQ:=af ((St.refl w).alloc #[.int .i64 t.start,.slice G gn gc,.slice G' n' c'] 26);have HT:=af h';have HG:=af hg;have AU:=af hp;have F7:=af (aJ t hok).2.1;have q0:=aQ.out.cells 0 rfl;obtain⟨z,hz⟩:∃z,aF t t.start p=z:=⟨_,rfl⟩;have HZ:=Bx.mk hz;have HP:Hid (iL t p=(decide (0≤z)&&aH t.goal z.toNat)):=af (by unfold iL;rw[hz]);have HZB:Hid (0≤z→z<32):=af (fun h0=>by have:=((eF t t.start p).1 (by rw[hz];exact h0)).2.2.2;rwa[hz] at this);clear h' hok hg hds hst hp hz;go_enter Tryz.func169,Tryz.ntmps169
 go_wp2_with fail
 refine(lU _ t _ A n c p _ (HT.out.up aQ.out.below) (AU.out.up aQ.out.below)).mono ?_;rw[HZ.out];rintro e w1 ⟨rfl,hb1⟩;have bG:=af (aQ.out.quiet hb1);clear hb1 q0 aQ;have q1:=bG.out.cells 0 rfl
 by_cases h0:0≤z
 ·obtain⟨s,rfl⟩:=bI h0;have hs:s<32:=by have:=HZB.out h0;omega
  have HF:Hid (iL t p=iK t.goal (s:Int)):=af (by
   rw[HP.out,decide_eq_true h0,dD]
   unfold iK
   rw[F7.out,(aU (s:Int)).2 (by omega)];simp)
  obtain⟨gb,hgb⟩:∃b,iK t.goal (s:Int)=b:=⟨_,rfl⟩;rw[hgb] at HF;have SY:=Bx.mk hgb;clear hgb
  go_wp2_with fail
  refine(jL G gn gc t.goal (s:Int) _ (HG.out.up bG.out.below)).mono ?_;rw[SY.out];rintro e w2 ⟨rfl,hb2⟩;have HS2:=af (bG.out.quiet hb2);clear hb2;go_wp2;go_ret;exact⟨by rw[HF.out];rfl,HS2.out.below⟩
 ·have HF:Hid (iL t p=false):=af (by rw[HP.out,decide_eq_false h0];rfl);go_wp2;go_ret;exact⟨by rw[HF.out];rfl,bG.out.below⟩
def jk (d:aj):Bool:=decide (d.on=0)&&decide (d.off=0)&&yw d.need
theorem yB (t:aB):gV t=(aK t&&t.ax.all jk):=rfl
theorem oG {t:aB} {k:Nat} {d:aj} (h:t.ax[k]? =some d) (hd:jk d=false):gV t=false:=by
 rw[yB]
 cases ht:t.ax.all jk with
 |false=>simp
 |true=>rw[List.all_eq_true.1 ht d (bU h)] at hd;cases hd
theorem RU {t:aB} (hok:aK t=true) (h:∀(k:Nat) (d:aj),t.ax[k]? =some d→jk d=true):gV t=true:=by
 rw[yB,hok,Bool.true_and,List.all_eq_true];intro d hd;obtain⟨k,hk,rfl⟩:=List.getElem_of_mem hd;exact h k _ (bD hk)
def yC (t:aB) (k:Nat):Prop:=∀(j:Nat) (d:aj),j<k→t.ax[j]? =some d→jk d=true
theorem D8 {t:aB} {k:Nat} {d:aj} (h:yC t k) (hk:t.ax[k]? =some d) (hd:jk d=true):yC t (k+1):=fun j e hj he=>by
 rcases Nat.lt_or_ge j k with h1 | h1
 ·exact h j e h1 he
 ·obtain rfl:j=k:=by omega
  rw[hk] at he;cases he;exact hd
theorem Gy {t:aB} {k:Nat} (h:yC t k) (hok:aK t=true) (hk:t.ax.length≤k):gV t=true:=
 RU hok fun j d hj=>h j d (Nat.lt_of_lt_of_le (aW.1 hj).1 hk) hj
theorem PX {d:aj} (h:d.on≠0):jk d=false:=by unfold jk;rw[decide_eq_false h];rfl
theorem LH {d:aj} (h:d.off≠0):jk d=false:=by unfold jk;rw[decide_eq_false h];simp
theorem D9 {d:aj} (h:kU d.need≠4294967295):jk d=false:=by unfold jk yw;rw[beq_false_of_ne h];simp
theorem Gz {d:aj} (h1:d.on=0) (h2:d.off=0) (h3:kU d.need=4294967295):jk d=true:=by
 unfold jk yw;rw[h1,h2,h3];rfl
theorem GH {d:aj} (h:bJ d=true):codeOk d.need=true:=by
 unfold bJ at h
 simp only[Bool.and_eq_true] at h;exact h.1.1.1.1
theorem D5 (v:Value) (t:aB) (w:World) (h:nI w w.heap.size v t) (hok:aK t=true):
  Calls Tryz.prog 198 #[v] w fun e w'=>e= .returned (.bool (gV t))∧Below w.heap.size w w':=by
 have h':=h;obtain⟨G,gn,gc,G',n',c',rfl,hg,hgs,hds,hst⟩:=h;have aQ:=af ((St.refl w).alloc #[.int .i64 t.start,.slice G gn gc,.slice G' n' c'] 26);have HT:=af h';have yM:=af hds;have fF:=af hds.len;have bC:=af hok;obtain⟨-,-,oq,iq⟩:=aJ t hok;have gU:=af iq;have xK:n'≤6:=by rw[←hds.len];exact oq
 clear h' hok hds iq oq hg hgs hst;go_enter Tryz.func198,Tryz.ntmps198
 go_wp2_with fail
 refine(bV _ t _ (HT.out.up aQ.out.below)).mono ?_;rw[bC.out];rintro e w1 ⟨rfl,hb1⟩;have bG:=af (aQ.out.quiet hb1);clear hb1 aQ;have q1:=bG.out.cells 0 rfl;go_wp2
 go_loopw [11] (fun i wr=>∃k:Nat,k≤n'∧i= .int .i64 (k:Int)∧Hid (yC t k)∧St w wr [ah w.heap.size 26 #[.int .i64 t.start,.slice G gn gc,.slice G' n' c']]) (fun i _=>n'-(intOf i).toNat)
 case atStart=>exact⟨0,by omega,rfl,af (fun j d h=>by omega),bG.out⟩
 case round=>
  clear bG q1;obtain⟨k,hk,rfl,HM,S⟩:=hrel;have HS:=af S;clear S
  by_cases hlt:k<n'
  ·obtain⟨db,off,d,rfl,hdb,hd,hda⟩:=yM.out.get hlt;obtain⟨An,nn,cn,p0,p1,p2,p3,bW,hnn,-⟩:=hda;have r0:wr.cell? ⟨db,off+k*4,none⟩=some (.slice An nn cn):=(aC HS.out.below db _ hdb).trans p0;have r1:wr.cell? ⟨db,off+k*4+1,none⟩=some (.int .i64 d.on):=(aC HS.out.below db _ hdb).trans p1;have r2:wr.cell? ⟨db,off+k*4+2,none⟩=some (.int .i64 d.off):=(aC HS.out.below db _ hdb).trans p2;have r3:wr.cell? ⟨db,off+k*4+3,none⟩=some (.int .i64 d.flip):=(aC HS.out.below db _ hdb).trans p3;have HN:=af bW;have MC:=af hnn;have HDK:=af hd;have YP:=Bx.mk (fQ d.need (GH (gU.out d (bU hd))));have bG:=af ((HS.out.alloc #[.slice An nn cn,.int .i64 d.on,.int .i64 d.off,.int .i64 d.flip] 144).pick [0] (by decide) rfl rfl);have HS2:=af (HS.out.alloc #[.slice An nn cn,.int .i64 d.on,.int .i64 d.off,.int .i64 d.flip] 144);clear p0 p1 p2 p3 bW hnn hd;obtain⟨don,hon⟩:∃x,d.on=x:=⟨_,rfl⟩;obtain⟨YE,hof⟩:∃x,d.off=x:=⟨_,rfl⟩;have Y7:=Bx.mk hon;have Md:=Bx.mk hof;rw[hon] at r1 bG HS2;rw[hof] at r2 bG HS2;clear hon hof
   by_cases h1:don=0
   case neg=>
    have HF:=Bx.mk (oG HDK.out (PX (by rw[Y7.out];exact h1)));have h1':(don != 0)=true:=by rw[bne_iff_ne];exact h1
    clear h1;go_wp2;go_ret;exact⟨by rw[HF.out];rfl,bG.out.below⟩
   subst h1
   by_cases h2:YE=0
   case neg=>
    have HF:=Bx.mk (oG HDK.out (LH (by rw[Md.out];exact h2)));have h2':(YE != 0)=true:=by rw[bne_iff_ne];exact h2
    clear h2;go_wp2;go_ret;exact⟨by rw[HF.out];rfl,bG.out.below⟩
   subst h2;obtain⟨tn,htn⟩:∃x,kU d.need=x:=⟨_,rfl⟩;have HTN:=Bx.mk htn;rw[htn] at YP;clear htn
   go_wp2_with fail
   refine(mG An nn cn d.need _ (HN.out.up bG.out.below)).mono ?_;rw[YP.out];rintro e w3 ⟨rfl,hb3⟩;have dV:=af (bG.out.quiet hb3);clear hb3
   by_cases h3:tn=4294967295
   ·subst h3;have gY:=af (D8 HM.out HDK.out (Gz Y7.out Md.out HTN.out));go_wp2
    go_roundw
    case rel=>exact⟨k+1,by omega,by go_num,gY,dV.out⟩
    case measure=>simp[intOf];omega
   ·have HF:=Bx.mk (oG HDK.out (D9 (by rw[HTN.out];exact h3)));have h3':((tn:Int) != 4294967295)=true:=by rw[bne_iff_ne];omega
    clear h3;go_wp2;go_ret;exact⟨by rw[HF.out];rfl,dV.out.below⟩
  ·have hke:k=n':=by omega
   have HF:=Bx.mk (Gy HM.out bC.out (by rw[fF.out];omega));clear hke;go_wp2;go_ret;exact⟨by rw[HF.out];rfl,HS.out.below⟩
theorem uT (v:Value) (t:aB) (w:World) (h:nI w w.heap.size v t) (hok:aK t=true):
  Calls Tryz.prog 175 #[v] w fun e w'=>e= .returned (.bool (gV t))∧Below w.heap.size w w':=by
 have h':=h;obtain⟨G,gn,gc,G',n',c',rfl,hg,hgs,hds,hst⟩:=h;have aQ:=af ((St.refl w).alloc #[.int .i64 t.start,.slice G gn gc,.slice G' n' c'] 26);have HT:=af h';have yM:=af hds;have fF:=af hds.len;have bC:=af hok;obtain⟨-,-,oq,iq⟩:=aJ t hok;have gU:=af iq;have xK:n'≤6:=by rw[←hds.len];exact oq
 clear h' hok hds iq oq hg hgs hst;go_enter Tryz.func175,Tryz.ntmps175;go_wp2
 go_loopw [3] (fun i wr=>∃k:Nat,k≤n'∧i= .int .i64 (k:Int)∧Hid (yC t k)∧St w wr [ah w.heap.size 26 #[.int .i64 t.start,.slice G gn gc,.slice G' n' c']]) (fun i _=>n'-(intOf i).toNat)
 case atStart=>exact⟨0,by omega,rfl,af (fun j d h=>by omega),aQ.out⟩
 case round=>
  clear aQ;obtain⟨k,hk,rfl,HM,S⟩:=hrel;have HSr:=af S;clear S;have qr:=HSr.out.cells 0 rfl
  by_cases hlt:k<n'
  ·obtain⟨db,off,d,rfl,hdb,hd,hda⟩:=yM.out.get hlt;obtain⟨An,nn,cn,p0,p1,p2,p3,bW,hnn,-⟩:=hda
   go_wp2_with fail
   refine(bP _ t _ (HT.out.up HSr.out.below)).mono ?_;rw[bC.out];rintro e w1 ⟨rfl,hb1⟩;have HS:=af (HSr.out.quiet hb1);clear hb1 HSr qr;have q1:=HS.out.cells 0 rfl;have r0:w1.cell? ⟨db,off+k*4,none⟩=some (.slice An nn cn):=(aC HS.out.below db _ hdb).trans p0;have r1:w1.cell? ⟨db,off+k*4+1,none⟩=some (.int .i64 d.on):=(aC HS.out.below db _ hdb).trans p1;have r2:w1.cell? ⟨db,off+k*4+2,none⟩=some (.int .i64 d.off):=(aC HS.out.below db _ hdb).trans p2;have r3:w1.cell? ⟨db,off+k*4+3,none⟩=some (.int .i64 d.flip):=(aC HS.out.below db _ hdb).trans p3;have HN:=af bW;have MC:=af hnn;have HDK:=af hd;have YP:=Bx.mk (fQ d.need (GH (gU.out d (bU hd))));have bG:=HS;clear p0 p1 p2 p3 bW hnn hd;obtain⟨don,hon⟩:∃x,d.on=x:=⟨_,rfl⟩;obtain⟨YE,hof⟩:∃x,d.off=x:=⟨_,rfl⟩;have Y7:=Bx.mk hon;have Md:=Bx.mk hof;rw[hon] at r1;rw[hof] at r2;clear hon hof
   by_cases h1:don=0
   case neg=>
    have HF:=Bx.mk (oG HDK.out (PX (by rw[Y7.out];exact h1)));have h1':(don != 0)=true:=by rw[bne_iff_ne];exact h1
    clear h1;go_wp2;go_ret;exact⟨by rw[HF.out];rfl,bG.out.below⟩
   subst h1
   by_cases h2:YE=0
   case neg=>
    have HF:=Bx.mk (oG HDK.out (LH (by rw[Md.out];exact h2)));have h2':(YE != 0)=true:=by rw[bne_iff_ne];exact h2
    clear h2;go_wp2;go_ret;exact⟨by rw[HF.out];rfl,bG.out.below⟩
   subst h2;obtain⟨tn,htn⟩:∃x,kU d.need=x:=⟨_,rfl⟩;have HTN:=Bx.mk htn;rw[htn] at YP;clear htn
   go_wp2_with fail
   refine(oW An nn cn d.need _ (HN.out.up bG.out.below) MC.out).mono ?_;rw[YP.out];rintro e w3 ⟨rfl,hb3⟩;have dV:=af (bG.out.quiet hb3);clear hb3
   by_cases h3:tn=4294967295
   ·subst h3;have gY:=af (D8 HM.out HDK.out (Gz Y7.out Md.out HTN.out));go_wp2
    go_roundw
    case rel=>exact⟨k+1,by omega,by go_num,gY,dV.out⟩
    case measure=>simp[intOf];omega
   ·have HF:=Bx.mk (oG HDK.out (D9 (by rw[HTN.out];exact h3)));have h3':((tn:Int) != 4294967295)=true:=by rw[bne_iff_ne];omega
    clear h3;go_wp2;go_ret;exact⟨by rw[HF.out];rfl,dV.out.below⟩
  ·have hke:k=n':=by omega
   have HF:=Bx.mk (Gy HM.out bC.out (by rw[fF.out];omega));clear hke
   go_wp2_with fail
   refine(bP _ t _ (HT.out.up HSr.out.below)).mono ?_;rw[bC.out];rintro e w1 ⟨rfl,hb1⟩;have HS:=af (HSr.out.quiet hb1);clear hb1;go_wp2;go_ret;exact⟨by rw[HF.out];rfl,HS.out.below⟩
theorem RV:∀m,m<32→jc m=m%2+jc (m/2):=by decide+kernel
theorem Vq:∀m,m<32→jc m≤5:=by decide+kernel
theorem pO (n:Nat) (hn:n<32) (w:World):
  Calls Tryz.prog 176 #[.int .i64 (n:Int)] w fun e w'=>e= .returned (.int .i64 (jc n:Nat))∧w=w':=by
 have h5:=Vq n hn;go_enter Tryz.func176,Tryz.ntmps176;go_wp2
 go_loop [0,3] (fun s p=>∃m k:Nat,m<32∧k≤5∧s= .int .i64 (m:Int)∧p= .int .i64 (k:Int)∧Hid (k+jc m=jc n)) (fun s _=>(intOf s).toNat)
 case atStart=>exact⟨n,0,hn,by omega,rfl,rfl,af (by omega)⟩
 case round=>
  obtain⟨m,k,hm,hk,rfl,rfl,HK⟩:=hrel
  by_cases h0:0<m
  ·have HS:=af (RV m hm);obtain⟨a,ha⟩:∃a,m/2=a:=⟨_,rfl⟩;obtain⟨r,hr⟩:∃r,m%2=r:=⟨_,rfl⟩;rw[ha,hr] at HS;have hr2:r<2:=by omega
   have q1:(m:Int).tdiv 2=(a:Int):=by rw[Int.tdiv_eq_ediv_of_nonneg (by omega)];omega
   have q2:(m:Int).tmod 2=(r:Int):=by rw[Int.tmod_eq_emod_of_nonneg (by omega)];omega
   have q3:(m:Int)/2=(a:Int):=by omega
   have q4:(m:Int)%2=(r:Int):=by omega
   have HKK:Hid (k+r+jc a=jc n):=af (by have:=HK.out;have:=HS.out;omega);have hb:k+r≤5:=by have:=HKK.out;omega
   have ha2:a<m:=by omega
   clear ha hr HS;go_wp2
   go_round
   case rel=>exact⟨a,k+r,by omega,hb,by go_num,by go_num,HKK⟩
   case measure=>simp[intOf];omega
  ·obtain rfl:m=0:=by omega
   have HE:Hid (k=jc n):=af (by have:=HK.out;rw[Gt] at this;omega);go_wp2;go_ret;exact⟨aG (by rw[HE.out]),rfl⟩
end Go.Proofs.YtkmcengmglgdeaaGreatDoor
