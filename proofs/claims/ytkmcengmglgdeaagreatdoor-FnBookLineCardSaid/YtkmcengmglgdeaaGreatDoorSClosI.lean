/- Joined texts: ClosI, ClosS, Turns. -/
import Derived.Test.YtkmcengmglgdeaaGreatDoorSJourP
import Derived.Test.YtkmcengmglgdeaaGreatDoorSPerm
import Derived.Test.YtkmcengmglgdeaaGreatDoorSTaskTS
import Derived.Test.YtkmcengmglgdeaaGreatDoorSBack
import Derived.Test.YtkmcengmglgdeaaGreatDoorSDraw
import Derived.Test.YtkmcengmglgdeaaGreatDoorSPermD
import Derived.Test.YtkmcengmglgdeaaGreatDoorSBValid

namespace Go.Proofs.YtkmcengmglgdeaaGreatDoor
set_option linter.unusedVariables false
set_option linter.unusedSimpArgs false
set_option maxRecDepth 100000
set_option maxHeartbeats 8000000
open Go.ChangeShapes Go.WideShapes Go.ChangeAt Go.RowKit
def XL (ds:List au) (S:Nat) (e:Ending):Prop:=vG ds S∧e= .returned .nilIface∨¬vG ds S∧∃a b:Nat,a<32∧b<32∧e= .returned (.iface 189 (.agg #[.int .i64 a,.int .i64 b]))
theorem Cc (v:Value) (t:aB) (M:Nat) (w:World) (h:oW w w.heap.size v t) (hok:aK t=true) (hM:M<4294967296):
  Calls Tryz.prog 197 #[v,.int .i64 (M:Int)] w fun e w'=>XL t.ay M e∧Below w.heap.size w w':=by
 have h':=h;obtain⟨G,gn,gc,G',n',c',rfl,-,-,-,-⟩:=h;have aS:=af ((St.refl w).alloc #[.int .i64 t.start,.slice G gn gc,.slice G' n' c'] 26);have HT:=af h';obtain⟨-,-,pz,iL⟩:=aJ t hok;have gQ:=af iL;clear iL;go_enter Tryz.func197,Tryz.ntmps197
 go_wp2_with fail
 refine(qU _ t _ (HT.out.up aS.out.below) hok).mono ?_;rintro e w3 ⟨rv,rfl,s3⟩;obtain⟨n,hn⟩:∃n,t.ay.length=n:=⟨_,rfl⟩;obtain⟨RA,RC,YO,-⟩:=s3.oD 0 rfl;rw[hn] at YO pz;subst YO;obtain⟨ds,hds⟩:∃ds,t.ay=ds:=⟨_,rfl⟩;have HDE:=Bx.mk hds;rw[hds] at s3 hn gQ;have HL:=af hn;have YP:Hid (∀W L,St w W (pF (.slice RA n RC) ds::L)→bJ W W.heap.size 32 RA n RC (ints (yI ds))):=af fun W L h=>h.I7 (n:=n) 0 (by rw[←HL.out];rfl)
 have cu:Hid (St w w3 [pF (.slice RA n RC) ds]):=af (aS.out.call s3).tl;clear s3 hn h' hok hds aS HT;go_wp2
 go_loopw [12] (fun i wr=>∃k:Nat,k≤n∧i= .int .i64 k∧Hid (tH ds M k 0)∧St w wr [pF (.slice RA n RC) ds]) (fun i _=>n-(intOf i).toNat)
 case atStart=>exact⟨0,by omega,rfl,af (Tq _ _),cu.out⟩
 case round=>
  clear cu;obtain⟨k,hk,rfl,HM,S⟩:=hrel;have HS:=af S;clear S
  by_cases hlt:k<n
  ·obtain⟨b,off,d,rfl,hb,hdk,hrow⟩:=CS (YP.out _ _ HS.out) HL.out hlt;have P5:Hid (∀j v,(rowOf d)[j]? =some v→wr.cell? ⟨b,off+k*32+j,none⟩=some v):=af hrow;have HDK:=af hdk;clear hrow hdk
   go_wp2_with (first
    | (refine iC 108 (.tmp 15) rfl rfl 3 32 qh b (off+k*32) (rowOf d) rfl (by rw[gJ];exact kX) P5.out ?_)
    | (refine jO 108 (.tmp 6) (.tmp 16) rfl rfl _ (rowOf d) rfl rfl (by rw[gJ];exact kX) (by rw[gJ];rfl) (by simp[rowOf,Value.oneCell']) ?_)
    | (refine iC 108 (.tmp 6) rfl rfl 3 32 qh wr.heap.size 0 (rowOf d) rfl (by rw[gJ];exact kX) (by simp) ?_))
   have NE:=af (gQ.out d (bT HDK.out));have bf:Hid (St w (wr.alloc (.cells (rowOf d).toArray 108)) [pF (.slice (some ⟨b,off,none⟩) n RC) ds]):=af ((HS.out.alloc (rowOf d).toArray 108).pick [0] (by decide) rfl rfl);have Bh:=af (uS d);have HLEN:=af (gJ d)
   generalize rowOf d=R at Bh HLEN bf ⊢
   clear P5
   go_loopw [18] (fun i wr=>∃m:Nat,m≤32∧i= .int .i64 m∧Hid (tH ds M k m)∧St w wr [pF (.slice (some ⟨b,off,none⟩) n RC) ds]) (fun i _=>32-(intOf i).toNat)
   case atStart=>exact⟨0,by omega,rfl,HM,bf.out⟩
   case round=>
    clear HM bf HS;obtain⟨m,xH,rfl,HM,S⟩:=hrel;have HS:=af S;clear S
    by_cases hm:m<32
    ·obtain⟨o,ho⟩:∃o,bD d m=o:=⟨_,rfl⟩;have hix:=Bh.out m hm;rw[ho] at hix;have Qj:=fun w=>qR (P:=Tryz.prog) (w:=w) (xs:=R) (k:=m) (v:=.int .i64 (opt o)) qh hix HLEN.out I4 Tryz.underlying3
     have HO:=af ho;have hbit:=and_one M m (by omega);clear ho
     by_cases hs1:bit M m=1
     case neg=>
      have hs0:bit M m=0:=by have:=jo M m;omega
      have iO:=af (Aq HM.out HDK.out fun q _ h1=>absurd h1 hs1);rw[hs0] at hbit;clear hs1 hs0;go_wp2
      go_roundw
      case rel=>exact⟨m+1,by omega,by go_num,iO,HS.out⟩
      case measure=>simp[intOf];omega
     rw[hs1] at hbit
     cases o with
     |none=>
      have iO:=af (Aq HM.out HDK.out fun q e _=>by rw[HO.out] at e;cases e);simp only[opt] at Qj;clear hs1;go_wp2
      go_roundw
      case rel=>exact⟨m+1,by omega,by go_num,iO,HS.out⟩
      case measure=>simp[intOf];omega
     |some q=>
      have hq:=iy d m q NE.out hm HO.out;simp only[opt] at Qj;have hbq:=and_one M q (by omega)
      by_cases hq1:bit M q=1
      ·have iO:=af (Aq HM.out HDK.out fun q' e _=>by rw[HO.out] at e;cases e;exact hq1);rw[hq1] at hbq;clear hs1 hq1;go_wp2
       go_roundw
       case rel=>exact⟨m+1,by omega,by go_num,iO,HS.out⟩
       case measure=>simp[intOf];omega
      ·have hq0:bit M q=0:=by have:=jo M q;omega
       have HF:=Bx.mk (VL hm HDK.out HO.out hs1 hq0);rw[hq0] at hbq;clear hs1 hq1 hq0;go_wp2;go_ret;exact⟨by rw[HDE.out];exact Or.inr ⟨HF.out,k,m,by omega,hm,rfl⟩,HS.out.below⟩
    ·have iO:Hid (tH ds M (k+1) 0):=af (Tt (by rw[←show m=32 by omega];exact HM.out));go_wp2
     go_roundw
     case rel=>exact⟨k+1,by omega,by go_num,iO,HS.out⟩
     case measure=>simp[intOf];omega
  ·have HF:Hid (vG ds M):=af (VK (by rw[HL.out,←show k=n by omega];exact HM.out));go_wp2;go_ret;exact⟨by rw[HDE.out];exact Or.inl ⟨HF.out,rfl⟩,HS.out.below⟩
theorem y5 (z:Int) (w:World):Calls Tryz.prog 195 #[.int .i64 z] w fun e w'=>e= .returned (.bool (decide (0≤z∧z<4294967296)))∧w=w':=by
 go_enter Tryz.func195,Tryz.ntmps195;go_wp2
 all_goals go_ret
 all_goals refine⟨aY ?_,rfl⟩
 all_goals simp
 all_goals omega
theorem F7 (v:Value) (t:aB) (z:Int) (w:World) (h:oW w w.heap.size v t) (he:rQ w) (hok:aK t=true):
  Calls Tryz.prog 170 #[v,.int .i64 z] w fun e w'=>e= .returned (.bool (eF t z))∧Below w.heap.size w w':=by
 have h':=h;obtain⟨G,gn,gc,G',n',c',rfl,hg,hgs,hds,hst⟩:=h;have aS:=af ((St.refl w).alloc #[.int .i64 t.start,.slice G gn gc,.slice G' n' c'] 26);have HT:=af h';have HG:=af hg;have HE:=af he;have bG:=af hok;obtain⟨qx,qB,-,-⟩:=aJ t hok;have Ot:=Bx.mk (gV t.goal qB);obtain⟨st,hst'⟩:∃x,t.start=x:=⟨_,rfl⟩;have afY:=Bx.mk hst';rw[hst'] at qx HT aS ⊢
 obtain⟨s0,rfl⟩:=bC qx.1;have mG:s0<32:=by omega
 have zB:Hid (t.start.toNat=s0):=af (by rw[hst'];simp);clear h' hok hg hds he qB hst' qx hst
 by_cases hz:0≤z∧z<4294967296
 case neg=>
  have HF:=Bx.mk (tC (t:=t) hz);have hz':=decide_eq_false hz;go_enter Tryz.func170,Tryz.ntmps170
  go_wp2_with fail
  refine(bZ _ t _ (HT.out.up aS.out.below)).mono ?_;rw[bG.out];rintro e w1 ⟨rfl,hb1⟩;have HB:=af (aS.out.quiet hb1).below;clear hb1
  go_wp2_with fail
  refine(y5 z _).mono ?_;rw[hz'];rintro e w2 ⟨rfl,rfl⟩;clear hz hz';go_wp2;go_ret;exact⟨by rw[HF.out];rfl,HB.out⟩
 have hz':=Bx.mk (decide_eq_true hz);obtain⟨M,rfl⟩:=bC hz.1;have hM:M<4294967296:=by omega
 have Au:=af (EH (t:=t) bG.out hM);rw[zB.out] at Au;have hbit:=and_one M s0 (by omega);obtain⟨N0,hN0⟩:∃N,lG t.goal=N:=⟨_,rfl⟩;have Xb:N0<4294967296:=by rw[←hN0];exact dI _
 rw[hN0] at Ot Au;clear hN0 hz;go_enter Tryz.func170,Tryz.ntmps170
 go_wp2_with fail
 refine(bZ _ t _ (HT.out.up aS.out.below)).mono ?_;rw[bG.out];rintro e w1 ⟨rfl,hb1⟩;have bf:=af (aS.out.quiet hb1);clear hb1 aS
 go_wp2_with fail
 refine(y5 _ _).mono ?_;rw[hz'.out];rintro e w2 ⟨rfl,rfl⟩;have q1:=bf.out.cells 0 rfl
 by_cases hb1:bit M s0=1
 case neg=>
  have hb0:bit M s0=0:=by have:=jo M s0;omega
  have HF:Hid (eF t (M:Int)=false):=af (by
   cases hc:eF t (M:Int) with
   |false=>rfl
   |true=>exact absurd (Au.out.1 hc).1 hb1)
  rw[hb0] at hbit;clear hb1 hb0;go_wp2;go_ret;exact⟨by rw[HF.out];rfl,bf.out.below⟩
 rw[hb1] at hbit
 go_wp2_with fail
 refine(ng G gn gc t.goal _ (HG.out.up bf.out.below)).mono ?_;rw[Ot.out];rintro e w3 ⟨rfl,hb3⟩;have cu:=af (bf.out.quiet hb3);clear hb3 q1 bf;have hand:=jP M N0 (by omega) (by omega)
 by_cases ha:M &&& N0=0
 case neg=>
  have HF:Hid (eF t (M:Int)=false):=af (by
   cases hc:eF t (M:Int) with
   |false=>rfl
   |true=>exact absurd (Au.out.1 hc).2.1 ha)
  have hne:((((M &&& N0:Nat):Int)) != 0)=true:=by rw[bne_iff_ne];omega
  generalize M &&& N0=A at hand hne ha
  clear ha hb1;go_wp2;go_ret;exact⟨by rw[HF.out];rfl,cu.out.below⟩
 rw[ha] at hand;have q3:=cu.out.cells 0 rfl;obtain⟨g5,hg5⟩:∃g5,w3.heap.size=g5:=⟨_,rfl⟩;have hgw:w.heap.size≤g5:=by rw[←hg5];exact cu.out.below.size
 have fH:=af (cu.out.alloc #[.int .i64 0,.int .i64 0] 189);have acP:Hid (eF t (M:Int)=true↔vG t.ay M):=af (by rw[Au.out];exact⟨fun h=>h.2.2,fun h=>⟨hb1,ha,h⟩⟩);have q4:=fH.out.cells 0 rfl;clear hb1 ha Au
 go_wp2_with fail
 try rw[hg5]
 rw[hg5] at fH
 generalize w3.alloc (.cells #[.int .i64 0,.int .i64 0] 189)=wa at fH q4 ⊢
 refine(Cc _ t M _ (HT.out.up fH.out.below) bG.out hM).mono ?_;rintro e w5 ⟨he4,hb4⟩;have dX:=af (fH.out.quiet hb4);clear hb4 q3 q4 fH cu
 rcases he4 with⟨hu,rfl⟩ | ⟨hu,a,b,ha,hb,rfl⟩
 ·have HF:=Bx.mk (acP.out.2 hu);clear hu
  go_wp2_with fail
  refine(as_nil _ _).mono ?_;rintro e w6 ⟨rfl,rfl⟩;go_wp2;go_ret;exact⟨by rw[HF.out];rfl,dX.out.below⟩
 ·have HF:Hid (eF t (M:Int)=false):=af (by
   cases hc:eF t (M:Int) with
   |false=>rfl
   |true=>exact absurd (acP.out.1 hc) hu)
  clear hu
  go_wp2_with fail
  refine(PE _ _ g5 w.heap.size _ _ _ (HE.out.up dX.out.below) (dX.out.blk 1 rfl) hgw).mono ?_;rintro e w6 ⟨rfl,hb5⟩;have HB:=af (dX.out.below.trans hb5);clear hb5;go_wp2;go_ret;exact⟨by rw[HF.out];rfl,HB.out⟩
theorem EK (v:Value) (t:aB) (z:Int) (w:World) (h:oW w w.heap.size v t) (hok:aK t=true) (hz:¬(0≤z∧z≤4294967295)):
  Calls Tryz.prog 160 #[v,.int .i64 z] w fun e w'=>e= .returned (.int .i64 (-1))∧Below w.heap.size w w':=by
 have h':=h;obtain⟨G,gn,gc,G',n',c',rfl,hg,hgs,hds,hst⟩:=h;have aS:=af ((St.refl w).alloc #[.int .i64 t.start,.slice G gn gc,.slice G' n' c'] 26);have HT:=af h';have bG:=af hok;clear h' hok hg hds;go_enter Tryz.func160,Tryz.ntmps160
 go_wp2_with fail
 refine(bV _ t _ (HT.out.up aS.out.below)).mono ?_;rw[bG.out];rintro e w1 ⟨rfl,hb1⟩;have HB:=af (aS.out.quiet hb1).below;clear hb1
 go_wp2_with fail
 refine(kS z 0 4294967295 _ hz).mono ?_;rintro e w2 ⟨rfl,rfl⟩;go_wp2;go_ret;exact⟨rfl,HB.out⟩
theorem Gh (v:Value) (t:aB) (z:Int) (w:World) (h:oW w w.heap.size v t) (hok:aK t=true):
  Calls Tryz.prog 129 #[v,.int .i64 z] w fun e w'=>e= .returned (.bool (eF t z))∧Below w.heap.size w w':=by
 have h':=h;obtain⟨G,gn,gc,G',n',c',rfl,hg,hgs,hds,hst⟩:=h;have aS:=af ((St.refl w).alloc #[.int .i64 t.start,.slice G gn gc,.slice G' n' c'] 26);have HT:=af h';have HG:=af hg;have HGN:=af hgs;have bG:=af hok;obtain⟨qx,qB,-,-⟩:=aJ t hok;have Ot:=Bx.mk (gV t.goal qB);obtain⟨st,hst'⟩:∃x,t.start=x:=⟨_,rfl⟩;rw[hst'] at qx HT aS ⊢
 obtain⟨s0,rfl⟩:=bC qx.1;have mG:s0<32:=by omega
 have zB:Hid (t.start.toNat=s0):=af (by rw[hst'];simp);have q0:=aS.out.cells 0 rfl;clear h' hok hg hds qB hst' qx hst hgs
 by_cases hz:0≤z∧z<4294967296
 case neg=>
  have HF:=Bx.mk (tC (t:=t) hz);go_enter Tryz.func129,Tryz.ntmps129
  go_wp2_with fail
  refine(EK _ t z _ (HT.out.up aS.out.below) bG.out (by omega)).mono ?_;rintro e w1 ⟨rfl,hb1⟩;have HB:=af (aS.out.quiet hb1).below;clear hb1 q0 hz;go_wp2;go_ret;exact⟨by rw[HF.out];rfl,HB.out⟩
 obtain⟨M,rfl⟩:=bC hz.1;have hM:M<4294967296:=by omega
 have Au:=af (EH (t:=t) bG.out hM);have zA:=af (F8 (t:=t) bG.out hM);rw[zB.out] at Au;obtain⟨N1,hN1⟩:∃N,aQ (lH t.ay (gq M)) 32=N:=⟨_,rfl⟩;have afX:N1<4294967296:=by rw[←hN1];exact dI _
 have HN1:=Bx.mk hN1;rw[hN1] at zA;obtain⟨N0,hN0⟩:∃N,lG t.goal=N:=⟨_,rfl⟩;have Xb:N0<4294967296:=by rw[←hN0];exact dI _
 rw[hN0] at Ot Au;clear hN0 hz hN1;go_enter Tryz.func129,Tryz.ntmps129
 go_wp2_with fail
 refine(tZ _ t M _ (HT.out.up aS.out.below) bG.out hM).mono ?_;rw[HN1.out];rintro e w1 ⟨rfl,hb1⟩;have bf:=af (aS.out.quiet hb1);clear hb1 q0 aS;have q1:=bf.out.cells 0 rfl;have hge:(0:Int)≤(N1:Int):=by omega
 go_wp2_with fail
 refine(jX M s0 (by omega) _).mono ?_
 by_cases hb1:bit M s0=1
 case neg=>
  have hb0:bit M s0=0:=by have:=jo M s0;omega
  have HF:Hid (eF t (M:Int)=false):=af (by
   cases hc:eF t (M:Int) with
   |false=>rfl
   |true=>exact absurd (Au.out.1 hc).1 hb1)
  rw[hb0];rintro e w2 ⟨rfl,rfl⟩;clear hb1 hb0;go_wp2;go_ret;exact⟨by rw[HF.out];rfl,bf.out.below⟩
 rw[hb1];rintro e w2 ⟨rfl,rfl⟩
 go_wp2_with fail
 refine(jU N1 M (by omega) _).mono ?_
 by_cases hc:N1 &&& M=N1
 case neg=>
  have HF:Hid (eF t (M:Int)=false):=af (by
   cases h:eF t (M:Int) with
   |false=>rfl
   |true=>exact absurd (zA.out.2 (Au.out.1 h).2.2) hc)
  have hne:((((N1 &&& M:Nat):Int)) == (N1:Int))=false:=beq_false_of_ne (by omega)
  generalize N1 &&& M=A at hne hc ⊢
  rintro e w2 ⟨rfl,rfl⟩;clear hc hb1;go_wp2;go_ret;exact⟨by rw[HF.out];rfl,bf.out.below⟩
 rw[hc];rintro e w2 ⟨rfl,rfl⟩
 go_wp2_with fail
 refine(qg G gn gc t.goal _ (HG.out.up bf.out.below) HGN.out).mono ?_;rw[Ot.out];rintro e w3 ⟨rfl,hb3⟩;have cu:=af (bf.out.quiet hb3);clear hb3 q1 bf
 go_wp2_with fail
 refine(jU M N0 (by omega) _).mono ?_
 by_cases ha:M &&& N0=0
 ·have HF:Hid (eF t (M:Int)=true):=af (Au.out.2 ⟨hb1,ha,zA.out.1 hc⟩);rw[ha];rintro e w4 ⟨rfl,rfl⟩;clear ha hb1 hc;go_wp2;go_ret;exact⟨by rw[HF.out];rfl,cu.out.below⟩
 ·have HF:Hid (eF t (M:Int)=false):=af (by
   cases h:eF t (M:Int) with
   |false=>rfl
   |true=>exact absurd (Au.out.1 h).2.1 ha)
  have hne:((((M &&& N0:Nat):Int)) == 0)=false:=beq_false_of_ne (by omega)
  generalize M &&& N0=A at hne ha ⊢
  rintro e w4 ⟨rfl,rfl⟩;clear ha hb1 hc;go_wp2;go_ret;exact⟨by rw[HF.out];rfl,cu.out.below⟩
theorem MX (v:Value) (t:aB) (A:Option Addr) (n c:Nat) (p:List Int) (w:World) (h:oW w w.heap.size v t) (hp:jd .i64 w w.heap.size A n c p) (hok:aK t=true):
  Calls Tryz.prog 128 #[v,.slice A n c] w fun e w'=>e= .returned (.bool (iW t p))∧Below w.heap.size w w':=by
 have h':=h;obtain⟨G,gn,gc,G',n',c',rfl,hg,hgs,hds,hst⟩:=h;have aS:=af ((St.refl w).alloc #[.int .i64 t.start,.slice G gn gc,.slice G' n' c'] 26);have HT:=af h';have HG:=af hg;have BO:=af hp;have G6:=af (aJ t hok).2.1;have q0:=aS.out.cells 0 rfl;obtain⟨z,hz⟩:∃z,aC t t.start p=z:=⟨_,rfl⟩;have HZ:=Bx.mk hz;have HP:Hid (iW t p=(decide (0≤z)&&aH t.goal z.toNat)):=af (by unfold iW;rw[hz]);have HZB:Hid (0≤z→z<32):=af (fun h0=>by have:=((fE t t.start p).1 (by rw[hz];exact h0)).2.2.2;rwa[hz] at this);clear h' hok hg hds hst hp hz;go_enter Tryz.func128,Tryz.ntmps128
 go_wp2_with fail
 refine(jy _ t _ A n c p _ (HT.out.up aS.out.below) (BO.out.up aS.out.below)).mono ?_;rw[HZ.out];rintro e w1 ⟨rfl,hb1⟩;have bf:=af (aS.out.quiet hb1);clear hb1 q0 aS;have q1:=bf.out.cells 0 rfl
 by_cases h0:0≤z
 ·obtain⟨s,rfl⟩:=bC h0;have hs:s<32:=by have:=HZB.out h0;omega
  have HF:Hid (iW t p=aH t.goal s):=af (by rw[HP.out,decide_eq_true h0,bW];rfl);obtain⟨gb,hgb⟩:∃b,aH t.goal s=b:=⟨_,rfl⟩;rw[hgb] at HF;have Uf:=Bx.mk hgb;clear hgb
  go_wp2_with fail
  refine(kU G gn gc t.goal s _ (HG.out.up bf.out.below) G6.out hs).mono ?_;rw[Uf.out];rintro e w2 ⟨rfl,hb2⟩;have HS2:=af (bf.out.quiet hb2);clear hb2;go_wp2;go_ret;exact⟨by rw[HF.out];rfl,HS2.out.below⟩
 ·have HF:Hid (iW t p=false):=af (by rw[HP.out,decide_eq_false h0];rfl);go_wp2;go_ret;exact⟨by rw[HF.out];rfl,bf.out.below⟩
theorem MK (v:Value) (t:aB) (A:Option Addr) (n c:Nat) (p:List Int) (w:World) (h:oW w w.heap.size v t) (hp:jd .i64 w w.heap.size A n c p) (hok:aK t=true):
  Calls Tryz.prog 169 #[v,.slice A n c] w fun e w'=>e= .returned (.bool (iW t p))∧Below w.heap.size w w':=by
 have h':=h;obtain⟨G,gn,gc,G',n',c',rfl,hg,hgs,hds,hst⟩:=h;have aS:=af ((St.refl w).alloc #[.int .i64 t.start,.slice G gn gc,.slice G' n' c'] 26);have HT:=af h';have HG:=af hg;have BO:=af hp;have G6:=af (aJ t hok).2.1;have q0:=aS.out.cells 0 rfl;obtain⟨z,hz⟩:∃z,aC t t.start p=z:=⟨_,rfl⟩;have HZ:=Bx.mk hz;have HP:Hid (iW t p=(decide (0≤z)&&aH t.goal z.toNat)):=af (by unfold iW;rw[hz]);have HZB:Hid (0≤z→z<32):=af (fun h0=>by have:=((fE t t.start p).1 (by rw[hz];exact h0)).2.2.2;rwa[hz] at this);clear h' hok hg hds hst hp hz;go_enter Tryz.func169,Tryz.ntmps169
 go_wp2_with fail
 refine(mW _ t _ A n c p _ (HT.out.up aS.out.below) (BO.out.up aS.out.below)).mono ?_;rw[HZ.out];rintro e w1 ⟨rfl,hb1⟩;have bf:=af (aS.out.quiet hb1);clear hb1 q0 aS;have q1:=bf.out.cells 0 rfl
 by_cases h0:0≤z
 ·obtain⟨s,rfl⟩:=bC h0;have hs:s<32:=by have:=HZB.out h0;omega
  have HF:Hid (iW t p=iU t.goal (s:Int)):=af (by
   rw[HP.out,decide_eq_true h0,bW]
   unfold iU
   rw[G6.out,(aV (s:Int)).2 (by omega)];simp)
  obtain⟨gb,hgb⟩:∃b,iU t.goal (s:Int)=b:=⟨_,rfl⟩;rw[hgb] at HF;have Uf:=Bx.mk hgb;clear hgb
  go_wp2_with fail
  refine(jV G gn gc t.goal (s:Int) _ (HG.out.up bf.out.below)).mono ?_;rw[Uf.out];rintro e w2 ⟨rfl,hb2⟩;have HS2:=af (bf.out.quiet hb2);clear hb2;go_wp2;go_ret;exact⟨by rw[HF.out];rfl,HS2.out.below⟩
 ·have HF:Hid (iW t p=false):=af (by rw[HP.out,decide_eq_false h0];rfl);go_wp2;go_ret;exact⟨by rw[HF.out];rfl,bf.out.below⟩
def jA (d:au):Bool:=decide (d.on=0)&&decide (d.off=0)&&yZ d.need
theorem zf (t:aB):iH t=(aK t&&t.ay.all jA):=rfl
theorem pK {t:aB} {k:Nat} {d:au} (h:t.ay[k]? =some d) (hd:jA d=false):iH t=false:=by
 rw[zf]
 cases ht:t.ay.all jA with
 |false=>simp
 |true=>rw[List.all_eq_true.1 ht d (bT h)] at hd;cases hd
theorem TK {t:aB} (hok:aK t=true) (h:∀(k:Nat) (d:au),t.ay[k]? =some d→jA d=true):iH t=true:=by
 rw[zf,hok,Bool.true_and,List.all_eq_true];intro d hd;obtain⟨k,hk,rfl⟩:=List.getElem_of_mem hd;exact h k _ (bH hk)
def zh (t:aB) (k:Nat):Prop:=∀(j:Nat) (d:au),j<k→t.ay[j]? =some d→jA d=true
theorem EQ {t:aB} {k:Nat} {d:au} (h:zh t k) (hk:t.ay[k]? =some d) (hd:jA d=true):zh t (k+1):=fun j e hj he=>by
 rcases Nat.lt_or_ge j k with h1 | h1
 ·exact h j e h1 he
 ·obtain rfl:j=k:=by omega
  rw[hk] at he;cases he;exact hd
theorem Ic {t:aB} {k:Nat} (h:zh t k) (hok:aK t=true) (hk:t.ay.length≤k):iH t=true:=
 TK hok fun j d hj=>h j d (Nat.lt_of_lt_of_le (bI.1 hj).1 hk) hj
theorem QN {d:au} (h:d.on≠0):jA d=false:=by unfold jA;rw[decide_eq_false h];rfl
theorem Nl {d:au} (h:d.off≠0):jA d=false:=by unfold jA;rw[decide_eq_false h];simp
theorem ER {d:au} (h:lG d.need≠4294967295):jA d=false:=by unfold jA yZ;rw[beq_false_of_ne h];simp
theorem Ie {d:au} (h1:d.on=0) (h2:d.off=0) (h3:lG d.need=4294967295):jA d=true:=by
 unfold jA yZ;rw[h1,h2,h3];rfl
theorem Ig {d:au} (h:bK d=true):codeOk d.need=true:=by
 unfold bK at h
 simp only[Bool.and_eq_true] at h;exact h.1.1.1.1
theorem EO (v:Value) (t:aB) (w:World) (h:oW w w.heap.size v t) (hok:aK t=true):
  Calls Tryz.prog 198 #[v] w fun e w'=>e= .returned (.bool (iH t))∧Below w.heap.size w w':=by
 have h':=h;obtain⟨G,gn,gc,G',n',c',rfl,hg,hgs,hds,hst⟩:=h;have aS:=af ((St.refl w).alloc #[.int .i64 t.start,.slice G gn gc,.slice G' n' c'] 26);have HT:=af h';have Bf:=af hds;have gy:=af hds.len;have bG:=af hok;obtain⟨-,-,pz,iL⟩:=aJ t hok;have gQ:=af iL;have yF:n'≤6:=by rw[←hds.len];exact pz
 clear h' hok hds iL pz hg hgs hst;go_enter Tryz.func198,Tryz.ntmps198
 go_wp2_with fail
 refine(bZ _ t _ (HT.out.up aS.out.below)).mono ?_;rw[bG.out];rintro e w1 ⟨rfl,hb1⟩;have bf:=af (aS.out.quiet hb1);clear hb1 aS;have q1:=bf.out.cells 0 rfl;go_wp2
 go_loopw [11] (fun i wr=>∃k:Nat,k≤n'∧i= .int .i64 (k:Int)∧Hid (zh t k)∧St w wr [ah w.heap.size 26 #[.int .i64 t.start,.slice G gn gc,.slice G' n' c']]) (fun i _=>n'-(intOf i).toNat)
 case atStart=>exact⟨0,by omega,rfl,af (fun j d h=>by omega),bf.out⟩
 case round=>
  clear bf q1;obtain⟨k,hk,rfl,HM,S⟩:=hrel;have HS:=af S;clear S
  by_cases hlt:k<n'
  ·obtain⟨db,off,d,rfl,hdb,hd,hda⟩:=Bf.out.get hlt;obtain⟨An,nn,cn,p0,p1,p2,p3,dU,hnn,-⟩:=hda;have r0:wr.cell? ⟨db,off+k*4,none⟩=some (.slice An nn cn):=(aF HS.out.below db _ hdb).trans p0;have r1:wr.cell? ⟨db,off+k*4+1,none⟩=some (.int .i64 d.on):=(aF HS.out.below db _ hdb).trans p1;have r2:wr.cell? ⟨db,off+k*4+2,none⟩=some (.int .i64 d.off):=(aF HS.out.below db _ hdb).trans p2;have r3:wr.cell? ⟨db,off+k*4+3,none⟩=some (.int .i64 d.flip):=(aF HS.out.below db _ hdb).trans p3;have HN:=af dU;have NK:=af hnn;have HDK:=af hd;have HCT:=Bx.mk (gV d.need (Ig (gQ.out d (bT hd))));have bf:=af ((HS.out.alloc #[.slice An nn cn,.int .i64 d.on,.int .i64 d.off,.int .i64 d.flip] 144).pick [0] (by decide) rfl rfl);have HS2:=af (HS.out.alloc #[.slice An nn cn,.int .i64 d.on,.int .i64 d.off,.int .i64 d.flip] 144);clear p0 p1 p2 p3 dU hnn hd;obtain⟨don,hon⟩:∃x,d.on=x:=⟨_,rfl⟩;obtain⟨Zz,hof⟩:∃x,d.off=x:=⟨_,rfl⟩;have HON:=Bx.mk hon;have NH:=Bx.mk hof;rw[hon] at r1 bf HS2;rw[hof] at r2 bf HS2;clear hon hof
   by_cases h1:don=0
   case neg=>
    have HF:=Bx.mk (pK HDK.out (QN (by rw[HON.out];exact h1)));have h1':(don != 0)=true:=by rw[bne_iff_ne];exact h1
    clear h1;go_wp2;go_ret;exact⟨by rw[HF.out];rfl,bf.out.below⟩
   subst h1
   by_cases h2:Zz=0
   case neg=>
    have HF:=Bx.mk (pK HDK.out (Nl (by rw[NH.out];exact h2)));have h2':(Zz != 0)=true:=by rw[bne_iff_ne];exact h2
    clear h2;go_wp2;go_ret;exact⟨by rw[HF.out];rfl,bf.out.below⟩
   subst h2;obtain⟨tn,htn⟩:∃x,lG d.need=x:=⟨_,rfl⟩;have HTN:=Bx.mk htn;rw[htn] at HCT;clear htn
   go_wp2_with fail
   refine(ng An nn cn d.need _ (HN.out.up bf.out.below)).mono ?_;rw[HCT.out];rintro e w3 ⟨rfl,hb3⟩;have cu:=af (bf.out.quiet hb3);clear hb3
   by_cases h3:tn=4294967295
   ·subst h3;have iO:=af (EQ HM.out HDK.out (Ie HON.out NH.out HTN.out));go_wp2
    go_roundw
    case rel=>exact⟨k+1,by omega,by go_num,iO,cu.out⟩
    case measure=>simp[intOf];omega
   ·have HF:=Bx.mk (pK HDK.out (ER (by rw[HTN.out];exact h3)));have h3':((tn:Int) != 4294967295)=true:=by rw[bne_iff_ne];omega
    clear h3;go_wp2;go_ret;exact⟨by rw[HF.out];rfl,cu.out.below⟩
  ·have hke:k=n':=by omega
   have HF:=Bx.mk (Ic HM.out bG.out (by rw[gy.out];omega));clear hke;go_wp2;go_ret;exact⟨by rw[HF.out];rfl,HS.out.below⟩
theorem vJ (v:Value) (t:aB) (w:World) (h:oW w w.heap.size v t) (hok:aK t=true):
  Calls Tryz.prog 175 #[v] w fun e w'=>e= .returned (.bool (iH t))∧Below w.heap.size w w':=by
 have h':=h;obtain⟨G,gn,gc,G',n',c',rfl,hg,hgs,hds,hst⟩:=h;have aS:=af ((St.refl w).alloc #[.int .i64 t.start,.slice G gn gc,.slice G' n' c'] 26);have HT:=af h';have Bf:=af hds;have gy:=af hds.len;have bG:=af hok;obtain⟨-,-,pz,iL⟩:=aJ t hok;have gQ:=af iL;have yF:n'≤6:=by rw[←hds.len];exact pz
 clear h' hok hds iL pz hg hgs hst;go_enter Tryz.func175,Tryz.ntmps175;go_wp2
 go_loopw [3] (fun i wr=>∃k:Nat,k≤n'∧i= .int .i64 (k:Int)∧Hid (zh t k)∧St w wr [ah w.heap.size 26 #[.int .i64 t.start,.slice G gn gc,.slice G' n' c']]) (fun i _=>n'-(intOf i).toNat)
 case atStart=>exact⟨0,by omega,rfl,af (fun j d h=>by omega),aS.out⟩
 case round=>
  clear aS;obtain⟨k,hk,rfl,HM,S⟩:=hrel;have HSr:=af S;clear S;have qr:=HSr.out.cells 0 rfl
  by_cases hlt:k<n'
  ·obtain⟨db,off,d,rfl,hdb,hd,hda⟩:=Bf.out.get hlt;obtain⟨An,nn,cn,p0,p1,p2,p3,dU,hnn,-⟩:=hda
   go_wp2_with fail
   refine(bV _ t _ (HT.out.up HSr.out.below)).mono ?_;rw[bG.out];rintro e w1 ⟨rfl,hb1⟩;have HS:=af (HSr.out.quiet hb1);clear hb1 HSr qr;have q1:=HS.out.cells 0 rfl;have r0:w1.cell? ⟨db,off+k*4,none⟩=some (.slice An nn cn):=(aF HS.out.below db _ hdb).trans p0;have r1:w1.cell? ⟨db,off+k*4+1,none⟩=some (.int .i64 d.on):=(aF HS.out.below db _ hdb).trans p1;have r2:w1.cell? ⟨db,off+k*4+2,none⟩=some (.int .i64 d.off):=(aF HS.out.below db _ hdb).trans p2;have r3:w1.cell? ⟨db,off+k*4+3,none⟩=some (.int .i64 d.flip):=(aF HS.out.below db _ hdb).trans p3;have HN:=af dU;have NK:=af hnn;have HDK:=af hd;have HCT:=Bx.mk (gV d.need (Ig (gQ.out d (bT hd))));have bf:=HS;clear p0 p1 p2 p3 dU hnn hd;obtain⟨don,hon⟩:∃x,d.on=x:=⟨_,rfl⟩;obtain⟨Zz,hof⟩:∃x,d.off=x:=⟨_,rfl⟩;have HON:=Bx.mk hon;have NH:=Bx.mk hof;rw[hon] at r1;rw[hof] at r2;clear hon hof
   by_cases h1:don=0
   case neg=>
    have HF:=Bx.mk (pK HDK.out (QN (by rw[HON.out];exact h1)));have h1':(don != 0)=true:=by rw[bne_iff_ne];exact h1
    clear h1;go_wp2;go_ret;exact⟨by rw[HF.out];rfl,bf.out.below⟩
   subst h1
   by_cases h2:Zz=0
   case neg=>
    have HF:=Bx.mk (pK HDK.out (Nl (by rw[NH.out];exact h2)));have h2':(Zz != 0)=true:=by rw[bne_iff_ne];exact h2
    clear h2;go_wp2;go_ret;exact⟨by rw[HF.out];rfl,bf.out.below⟩
   subst h2;obtain⟨tn,htn⟩:∃x,lG d.need=x:=⟨_,rfl⟩;have HTN:=Bx.mk htn;rw[htn] at HCT;clear htn
   go_wp2_with fail
   refine(qg An nn cn d.need _ (HN.out.up bf.out.below) NK.out).mono ?_;rw[HCT.out];rintro e w3 ⟨rfl,hb3⟩;have cu:=af (bf.out.quiet hb3);clear hb3
   by_cases h3:tn=4294967295
   ·subst h3;have iO:=af (EQ HM.out HDK.out (Ie HON.out NH.out HTN.out));go_wp2
    go_roundw
    case rel=>exact⟨k+1,by omega,by go_num,iO,cu.out⟩
    case measure=>simp[intOf];omega
   ·have HF:=Bx.mk (pK HDK.out (ER (by rw[HTN.out];exact h3)));have h3':((tn:Int) != 4294967295)=true:=by rw[bne_iff_ne];omega
    clear h3;go_wp2;go_ret;exact⟨by rw[HF.out];rfl,cu.out.below⟩
  ·have hke:k=n':=by omega
   have HF:=Bx.mk (Ic HM.out bG.out (by rw[gy.out];omega));clear hke
   go_wp2_with fail
   refine(bV _ t _ (HT.out.up HSr.out.below)).mono ?_;rw[bG.out];rintro e w1 ⟨rfl,hb1⟩;have HS:=af (HSr.out.quiet hb1);clear hb1;go_wp2;go_ret;exact⟨by rw[HF.out];rfl,HS.out.below⟩
theorem TL:∀m,m<32→iY m=m%2+iY (m/2):=by decide+kernel
theorem V6:∀m,m<32→iY m≤5:=by decide+kernel
theorem qy (n:Nat) (hn:n<32) (w:World):
  Calls Tryz.prog 176 #[.int .i64 (n:Int)] w fun e w'=>e= .returned (.int .i64 (iY n:Nat))∧w=w':=by
 have h5:=V6 n hn;go_enter Tryz.func176,Tryz.ntmps176;go_wp2
 go_loop [0,3] (fun s p=>∃m k:Nat,m<32∧k≤5∧s= .int .i64 (m:Int)∧p= .int .i64 (k:Int)∧Hid (k+iY m=iY n)) (fun s _=>(intOf s).toNat)
 case atStart=>exact⟨n,0,hn,by omega,rfl,rfl,af (by omega)⟩
 case round=>
  obtain⟨m,k,hm,hk,rfl,rfl,HK⟩:=hrel
  by_cases h0:0<m
  ·have HS:=af (TL m hm);obtain⟨a,ha⟩:∃a,m/2=a:=⟨_,rfl⟩;obtain⟨r,hr⟩:∃r,m%2=r:=⟨_,rfl⟩;rw[ha,hr] at HS;have hr2:r<2:=by omega
   have q1:(m:Int).tdiv 2=(a:Int):=by rw[Int.tdiv_eq_ediv_of_nonneg (by omega)];omega
   have q2:(m:Int).tmod 2=(r:Int):=by rw[Int.tmod_eq_emod_of_nonneg (by omega)];omega
   have q3:(m:Int)/2=(a:Int):=by omega
   have q4:(m:Int)%2=(r:Int):=by omega
   have HKK:Hid (k+r+iY a=iY n):=af (by have:=HK.out;have:=HS.out;omega);have hb:k+r≤5:=by have:=HKK.out;omega
   have ha2:a<m:=by omega
   clear ha hr HS;go_wp2
   go_round
   case rel=>exact⟨a,k+r,by omega,hb,by go_num,by go_num,HKK⟩
   case measure=>simp[intOf];omega
  ·obtain rfl:m=0:=by omega
   have HE:Hid (k=iY n):=af (by have:=HK.out;rw[H7] at this;omega);go_wp2;go_ret;exact⟨aP (by rw[HE.out]),rfl⟩
end Go.Proofs.YtkmcengmglgdeaaGreatDoor
