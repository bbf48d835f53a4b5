/- Joined texts: Fwd, NextW, StepsOn, Reach, Count, RTask. -/
import Derived.Test.YtkmcengmglgdeaaGreatDoorSPlanForS
import Derived.Test.YtkmcengmglgdeaaGreatDoorSBack
import Derived.Test.YtkmcengmglgdeaaGreatDoorSPlanForW
import Derived.Test.YtkmcengmglgdeaaGreatDoorSApp
import Derived.Test.YtkmcengmglgdeaaGreatDoorSNum

namespace Go.Proofs.YtkmcengmglgdeaaGreatDoor
set_option linter.unusedVariables false
set_option linter.unusedSimpArgs false
set_option maxRecDepth 100000
set_option maxHeartbeats 8000000
def aaP (ds:List au) (S:Nat→Bool):Nat→Nat→Int
 |0,s=>if S s then 0 else -1
 |n+1,s=>if lZ ds S n s then aaP ds S n s else if lH ds (lZ ds S n) s then((n+1:Nat):Int) else -1
def MS (ds:List au) (S:Nat→Bool) (s:Nat):Int:=aaP ds S 32 s
def vI (ds:List au) (S:Nat→Bool) (n:Nat):Prop:=∀s,s<32→lH ds (lZ ds S n) s=true→lZ ds S n s=true
section
variable {ds : List au} {S : Nat → Bool}
theorem EJ {T:Nat→Bool} {s:Nat} (h:∀s',s'<32→S s'=T s'):lH ds S s=lH ds T s:=by
 rw[Bool.eq_iff_iff,yY,yY]
 constructor
 ·rintro⟨s',h1,h2,h3⟩;exact⟨s',h1,by rw[←h s' h1];exact h2,h3⟩
 ·rintro⟨s',h1,h2,h3⟩;exact⟨s',h1,by rw[h s' h1];exact h2,h3⟩
theorem VR {n s:Nat} (h:lZ ds S n s=true):lZ ds S (n+1) s=true:=by simp[lZ,h]
theorem Py {n:Nat} (h:vI ds S n) (m:Nat):∀s,s<32→lZ ds S (n+m) s=lZ ds S n s:=by
 induction m with
 |zero=>intro s _;rfl
 |succ m ih=>
  intro s hs;rw[←Nat.add_assoc];simp only[lZ];rw[ih s hs,EJ ih]
  cases hb:lH ds (lZ ds S n) s with
  |false=>simp
  |true=>rw[h s hs hb];rfl
theorem Tv {n:Nat} (h:¬vI ds S n):cnt (lZ ds S n) 32<cnt (lZ ds S (n+1)) 32:=by
 unfold vI at h
 simp only[Classical.not_forall] at h;obtain⟨s,hs,hb,hl⟩:=h;exact cnt_lt (fun k _=>VR) hs (by simpa using hl) (by simp[lZ,hb])
end
open Go.ChangeShapes Go.WideShapes Go.ChangeAt Go.RowKit
def Tz (d:au) (S m s:Nat):Bool:=(List.range m).any fun s'=>bit S s' == 1&&bD d s' == some s
def qO (ds:List au) (d:au) (S m:Nat) (s:Nat):Bool:=lH ds (gq S) s||Tz d S m s
theorem VQ (S:Nat→Bool) (s:Nat):lH [] S s=false:=by simp[lH]
theorem Pz (ds:List au) (d:au) (S:Nat):aQ (qO ds d S 0) 32=aQ (lH ds (gq S)) 32:=cO fun k _=>by simp[qO,Tz]
theorem H6 (d:au) (S m s:Nat):Tz d S (m+1) s=(Tz d S m s||(bit S m == 1&&bD d m == some s)):=by
 unfold Tz;rw[List.range_succ,List.any_append];simp
theorem aaO {α:Type} (l:List α) (p q:α→Bool):(l.any fun a=>p a||q a)=(l.any p||l.any q):=by
 induction l with
 |nil=>rfl
 |cons a l ih=>simp only[List.any_cons,ih];cases p a<;>cases q a<;>simp
theorem TA (ds:List au) (d:au) (S k:Nat) (h:ds[k]? =some d):aQ (qO (ds.take k) d S 32) 32=aQ (lH (ds.take (k+1)) (gq S)) 32:=cO fun s hs=>by
 rw[take_succ' h]
 unfold qO Tz lH gq
 simp only[List.any_append,List.any_cons,List.any_nil,Bool.or_false,Bool.and_or_distrib_left];rw[aaO]
theorem MV (ds:List au) (d:au) (S m:Nat) (h:bit S m=1→∀s,bD d m=some s→False):aQ (qO ds d S (m+1)) 32=aQ (qO ds d S m) 32:=cO fun s hs=>by
 unfold qO
 rw[H6]
 have:(bit S m == 1&&bD d m == some s)=false:=by
  rw[dH];intro hh;simp only[Bool.and_eq_true,beq_iff_eq] at hh;exact h hh.1 s hh.2
 rw[this,Bool.or_false]
theorem TB (ds:List au) (d:au) (S m q:Nat) (h:bD d m=some q) (hb:bit S m=1):∀j,j<32→qO ds d S (m+1) j=(qO ds d S m j||decide (q=j)):=fun j hj=>by
 unfold qO
 rw[H6,h,hb,Bool.or_assoc]
 congr 1
theorem EI (A:Option Addr) (n c:Nat) (ds:List au) (S:Nat) (w:World) (h:bJ w w.heap.size 32 A n c (ints (yI ds))) (hn:ds.length=n) (hd:∀d∈ds,bK d=true) (pz:n≤6) (hS:S<4294967296):
  Calls Tryz.prog 193 #[.slice A n c,.int .i64 S] w fun e w'=>e= .returned (.int .i64 (aQ (lH ds (gq S)) 32:Nat))∧Below w.heap.size w w':=by
 have HR:=af h;have HL:=af hn;have gQ:=af hd;clear h hn hd;go_enter Tryz.func193,Tryz.ntmps193;go_wp2
 go_loopw [12,5] (fun i sv wr=>∃k M:Nat,k≤n∧i= .int .i64 k∧sv= .int .i64 M∧Hid (M=aQ (lH (ds.take k) (gq S)) 32)∧Below w.heap.size w wr) (fun i _ _=>n-(intOf i).toNat)
 case atStart=>exact⟨0,0,by omega,rfl,rfl,af (kV.2 fun s _=>VQ _ s).symm,ai _ _⟩
 case round=>
  obtain⟨k,M,hk,rfl,rfl,HM,hbel⟩:=hrel;have HB:=af hbel;clear hbel
  by_cases hlt:k<n
  ·obtain⟨b,off,d,rfl,hb,hdk,hrow⟩:=CS HR.out HL.out hlt;have P5:Hid (∀j v,(rowOf d)[j]? =some v→wr.cell? ⟨b,off+k*32+j,none⟩=some v):=af fun j v hv=>(aF HB.out b _ hb).trans (hrow j v hv)
   have HDK:=af hdk;clear hrow hdk
   go_wp2_with (first
    | (refine iC 108 (.tmp 14) rfl rfl 3 32 qh b (off+k*32) (rowOf d) rfl (by rw[gJ];exact kX) P5.out ?_)
    | (refine jO 108 (.tmp 7) (.tmp 15) rfl rfl _ (rowOf d) rfl rfl (by rw[gJ];exact kX) (by rw[gJ];rfl) (by simp[rowOf,Value.oneCell']) ?_)
    | (refine iC 108 (.tmp 7) rfl rfl 3 32 qh wr.heap.size 0 (rowOf d) rfl (by rw[gJ];exact kX) (by simp) ?_))
   have CQ:Hid (M=aQ (qO (ds.take k) d S 0) 32):=af (HM.out.trans (Pz _ _ _).symm);have NE:=af (gQ.out d (bT HDK.out));have HB1:Hid (Below w.heap.size w (wr.alloc (.cells (rowOf d).toArray 108))):=af (HB.out.alloc HB.out.size _);have Bh:=af (uS d);have HLEN:=af (gJ d)
   generalize rowOf d=R at Bh HLEN HB1 ⊢
   clear P5 HM
   go_loopw [17,5] (fun i sv wr=>∃m M:Nat,m≤32∧i= .int .i64 m∧sv= .int .i64 M∧Hid (M=aQ (qO (ds.take k) d S m) 32)∧Below w.heap.size w wr) (fun i _ _=>32-(intOf i).toNat)
   case atStart=>exact⟨0,M,by omega,rfl,rfl,CQ,HB1.out⟩
   case round=>
    clear CQ HB1 HB;obtain⟨m,M1,xH,rfl,rfl,HM,hbel⟩:=hrel;have HB:=af hbel;clear hbel
    by_cases hm:m<32
    ·obtain⟨o,ho⟩:∃o,bD d m=o:=⟨_,rfl⟩;have hix:=Bh.out m hm;rw[ho] at hix;have Qj:=fun w=>qR (P:=Tryz.prog) (w:=w) (xs:=R) (k:=m) (v:=.int .i64 (opt o)) qh hix HLEN.out I4 Tryz.underlying3
     have HO:=af ho;clear ho
     cases o with
     |none=>
      have iO:Hid (M1=aQ (qO (ds.take k) d S (m+1)) 32):=af (HM.out.trans (MV _ d S m (by rw[HO.out];exact fun _ _ h=>by cases h)).symm);simp only[opt] at Qj;go_wp2
      go_roundw
      case rel=>exact⟨m+1,M1,by omega,by go_num,rfl,iO,HB.out⟩
      case measure=>simp[intOf];omega
     |some q=>
      have hq:=iy d m q NE.out hm HO.out;have hbit:=and_one S m (by omega);simp only[opt] at Qj
      by_cases hs1:bit S m=1
      ·rw[hs1] at hbit;have hpw:=iK q (by omega);have hor:=zS hq HM.out (TB (ds.take k) d S m q HO.out hs1);clear hs1;go_wp2
       go_roundw
       case rel=>exact⟨m+1,_,by omega,by go_num,rfl,af rfl,HB.out⟩
       case measure=>simp[intOf];omega
      ·have hs0:bit S m=0:=by have:=jo S m;omega
       rw[hs0] at hbit;have iO:Hid (M1=aQ (qO (ds.take k) d S (m+1)) 32):=af (HM.out.trans (MV _ d S m (fun h _ _=>absurd (hs0.symm.trans h) (by decide))).symm);clear hs1 hs0;go_wp2
       go_roundw
       case rel=>exact⟨m+1,M1,by omega,by go_num,rfl,iO,HB.out⟩
       case measure=>simp[intOf];omega
    ·have iO:Hid (M1=aQ (lH (ds.take (k+1)) (gq S)) 32):=af (by rw[HM.out,show m=32 by omega];exact TA ds d S k HDK.out);go_wp2
     go_roundw
     case rel=>exact⟨k+1,M1,by omega,by go_num,rfl,iO,HB.out⟩
     case measure=>simp[intOf];omega
  ·have HF:Hid (M=aQ (lH ds (gq S)) 32):=af (by
    rw[HM.out,gW (by rw[HL.out];omega)])
   go_wp2;go_ret;exact⟨aP (by rw[HF.out]),HB.out⟩
def only (s0:Nat):Nat→Bool:=fun s=>decide (s0=s)
theorem Hz {s0:Nat} (h:s0<32):aQ (only s0) 32=2^s0:=by
 have:=qG (fun _=>false) 32 s0 h
 rw[show aQ (fun _=>false) 32=0 from kV.2 fun _ _=>rfl,Nat.zero_or] at this;rw[this];exact cO fun k _=>by simp[only]
def acM (ds:List au) (p:Nat→Bool):List Int:=(List.range 32).map (MS ds p)
theorem QK {ds:List au} (p:Nat→Bool):aQ (lH ds (gq (aQ p 32))) 32=aQ (lH ds p) 32:=cO fun s hs=>EJ (GV p)
def aaN (ds:List au) (p:Nat→Bool) (m:Nat):Nat→Bool:=fun s=>lH ds (lZ ds p m) s&& !lZ ds p m s
def reached (t:aB):Int:=if aK t then(aQ (lZ t.ay (only t.start.toNat) 32) 32:Nat) else -1
theorem Px (t:aB) (h:aK t=false):reached t= -1:=if_neg (by rw[h];simp)
theorem MQ (t:aB) (h:aK t=true) (s:Nat) (hs:t.start=(s:Int)):reached t=(aQ (lZ t.ay (only s) 32) 32:Nat):=by unfold reached;rw[if_pos h,hs,bW]
def leadsTo (t:aB):Int:=if aK t then(aQ (layer t.ay (aH t.goal) 32) 32:Nat) else -1
def aaI (t:aB):List Int:=if aK t then fJ t.ay (aH t.goal) else []
def abd (t:aB):List Int:=if aK t then acM t.ay (only t.start.toNat) else []
theorem aaJ {ds:List au} {p:Nat→Bool} {m M N:Nat} (hM:M=aQ (lZ ds p m) 32) (hN:N=aQ (lH ds (lZ ds p m)) 32):bits .or .i64 (M:Int) (N:Int)=((aQ (lZ ds p (m+1)) 32:Nat):Int):=by
 have h1:=dI (lZ ds p m);have h2:=dI (lH ds (lZ ds p m));rw[nT _ _ (by omega) (by omega),hM,hN,CO];rfl
theorem VP {ds:List au} {p:Nat→Bool} {m:Nat}:aQ (lZ ds p m) 32≤aQ (lZ ds p (m+1)) 32:=by
 have:aQ (lZ ds p (m+1)) 32=aQ (lZ ds p m) 32 ||| aQ (lH ds (lZ ds p m)) 32:=by rw[CO];rfl
 rw[this];exact Nat.left_le_or
theorem QJ {ds:List au} {p:Nat→Bool} {m:Nat} (hm:m≤32) (h:aQ (lZ ds p (m+1)) 32=aQ (lZ ds p m) 32):aQ (lZ ds p m) 32=aQ (lZ ds p 32) 32:=by
 have hf:vI ds p m:=fun s hs hb=>by
  have:=KR h s hs
  rw[←this];simp[lZ,hb]
 exact cO fun s hs=>by
  have:=Py hf (32-m) s hs
  rwa[show m+(32-m)=32 by omega,eq_comm] at this
theorem MR {ds:List au} {p:Nat→Bool} {m:Nat} (h:aQ (lZ ds p (m+1)) 32≠aQ (lZ ds p m) 32) (hc:m≤cnt (lZ ds p m) 32):m+1≤cnt (lZ ds p (m+1)) 32:=by
 have hf:¬vI ds p m:=fun hf=>h (cO fun s hs=>by
  simp only[lZ]
  cases hb:lH ds (lZ ds p m) s with
  |false=>simp
  |true=>rw[hf s hs hb];rfl)
 have:=Tv hf;omega
def ade (d:au) (s:Int):Int:=if bK d=true∧iJ s=true then opt (bD d s.toNat) else -1
theorem JH (v:Value) (t:aB) (w:World) (h:oW w w.heap.size v t):
  Calls Tryz.prog 167 #[v] w fun e w'=>e= .returned (.int .i64 (reached t))∧Below w.heap.size w w':=by
 have h':=h;obtain⟨G,gn,gc,G',n',c',rfl,hg,hgs,hds,hst⟩:=h;have S0:=(St.refl w).alloc #[.int .i64 t.start,.slice G gn gc,.slice G' n' c'] 26;have HT:=af h';have HG:=af hg;have aS:=af S0;have gy:=af hds.len;clear S0 h' hg hds;obtain⟨bo,hok⟩:∃b,aK t=b:=⟨_,rfl⟩;have bG:=af hok;clear hok
 cases bo with
 |false=>
  have Og:=Bx.mk (Px t bG.out);go_enter Tryz.func167,Tryz.ntmps167
  go_wp2_with fail
  refine(bZ _ t _ (HT.out.up aS.out.below)).mono ?_;rw[bG.out];rintro e w1 ⟨rfl,hb1⟩;have HB:=af (aS.out.quiet hb1).below;clear hb1;go_wp2;go_ret;exact⟨aP Og.out.symm,HB.out⟩
 |true=>
  obtain⟨hs0,qB,pz,iL⟩:=aJ t bG.out;obtain⟨s0,wH⟩:=bC hs0.1;have gQ:=af iL;have UI:=af qB;have mG:s0<32:=by omega
  have aaK:=iK s0 (by omega);have aaL:IntKind.i64.wrap ((2:Int)^s0)=2^s0:=IntWalk.i64_in _ (by have:=jS s0 31 (by omega);have:(0:Int)<2^s0:=Int.pow_pos (by omega);omega);have Ot:=Bx.mk (gV t.goal UI.out);have yF:n'≤6:=by rw[←gy.out];exact pz
  have UE:=Bx.mk (MQ t bG.out s0 wH);rw[wH] at aS ⊢
  clear iL qB hs0 pz;go_enter Tryz.func167,Tryz.ntmps167
  go_wp2_with fail
  refine(bZ _ t _ (by rw[←wH];rw[←wH] at aS;exact HT.out.up aS.out.below)).mono ?_;rw[bG.out];rintro e w1 ⟨rfl,hb1⟩;have Xu:=Bx.mk wH;have bf:=af (aS.out.quiet hb1);clear hb1 aS
  go_upto_region 3 with(fail)
  refine kG (σ:=Value)
   (fun s i=>match i with
    |0=>.agg #[.int .i64 s0,.slice G gn gc,.slice G' n' c']
    |1=>s
    |2=>.pointer (some ⟨w.heap.size,0,none⟩)
    |3=>.int .i64 s0
    |4=>.int .i64 (2^s0)
    |5=>s
    |6=>.int .i64 (2^s0)
    |_=>undef)
   (fun D s wx=>Sn w wx fun i=>match i with
    |0=>some (ah w.heap.size 26 #[.int .i64 s0,.slice G gn gc,.slice G' n' c'])
    |1=>if D 1=true then some (pF s t.ay) else none
    |_=>none)
   undef ?_ ?_ ?_
  ·intro D hD;refine((Sn.dN bf.out).quiet ((ai _ _).drew)).congr fun i=>?_
   match i with
   |0=>rfl
   |1=>exact if_neg (by rw[hD 1 (by decide)];simp)
   |q+2=>rfl
  ·refine Cs (fun D s wx hR _ hd _ _ hs K hK=>?_) ?_
   ·have e1:=hs.o 1 (.pointer (some ⟨w.heap.size,0,none⟩));clear hs;have qk:=(hR.blk 0 rfl).cell;go_simp;exact hK s wx sv hR
   refine Cs (fun D s wx hR (hDi:D 1=false) hd hsh _ hs K hK=>?_) ?_
   ·have e9:=hs.v 0 9 hd;have g9:=aX e9;clear hs;have n5:D 5=false:=hsh.no hDi 5 rfl ⟨1,.data⟩ (by simp) rfl rfl;go_simp;refine(qU _ t _ (by have:=HT.out.up hR.below;rw[Xu.out] at this;exact this) bG.out).mono ?_;rintro e2 w2 ⟨v2,rfl,s2⟩
    refine hK v2 w2
     (fun j hj=>by
      match j,hj with
      |0,hj=>rfl
      |1,hj=>rw[hDi] at hj;cases hj
      |2,hj | 3,hj | 4,hj=>rfl
      |5,hj=>rw[n5] at hj;cases hj
      |6,hj=>rfl
      |_+7,hj=>rfl)
     ((hR.add 1 (if_neg (by rw[hDi];simp)) s2).congr
      (fun i=>by
       match i with
       |0 | 1=>rfl
       |q+2=>exact(if_neg (show¬(q+2=1) by omega)).symm))
   refine Cs (fun D s wx hR _ hd _ _ hs K hK=>?_) ?_
   ·have e1:=hs.o 1 (.pointer (some ⟨w.heap.size,0,none⟩));clear hs;go_simp;exact hK s wx sv hR
   refine Cs (fun D s wx hR _ hd _ _ hs K hK=>?_) ?_
   ·have e11:=hs.v 2 11 hd;clear hs;have qk:=(hR.blk 0 rfl).cell;go_simp;exact hK s wx sv hR
   refine Cs (fun D s wx hR _ hd _ _ hs K hK=>?_) ?_
   ·have e12:=hs.v 3 12 hd;clear hs;go_simp;exact hK s wx sv hR
   refine Cs (fun D s wx hR _ hd _ _ hs K hK=>?_) ?_
   ·have e10:=hs.v 1 10 hd;clear hs;go_simp;exact hK s wx sv hR
   refine Cs (fun D s wx hR _ hd _ _ hs K hK=>?_) ?_
   ·have e13:=hs.v 4 13 hd;clear hs;go_simp;exact hK s wx sv hR
   exact aj.nil
  ·intro D s wx hR hD;simp only[eH,Act.put,aO,aU,aW];have HS2:Hid (St w wx [ah w.heap.size 26 #[.int .i64 s0,.slice G gn gc,.slice G' n' c'],pF s t.ay]):=af (hR.eG [0,1] (by decide) (by simp only[List.map,hD 1 (by decide)];rfl));clear hR hD;obtain⟨RA,RC,YO,-⟩:=HS2.out.oD 1 rfl;rw[gy.out] at YO;subst YO;have YP:Hid (∀W L,St w W (ah w.heap.size 26 #[.int .i64 s0,.slice G gn gc,.slice G' n' c']::pF (.slice RA n' RC) t.ay::L)→bJ W W.heap.size 32 RA n' RC (ints (yI t.ay))):=af fun W L h=>h.I7 (n:=n') 1 (by rw[←gy.out];rfl)
   have hP0:(2:Int)^s0=((aQ (lZ t.ay (only s0) 0) 32:Nat):Int):=by
    rw[show aQ (lZ t.ay (only s0) 0) 32=aQ (only s0) 32 from rfl,Hz mG];simp
   rw[hP0];clear hP0 aaK aaL;go_wp2
   go_loopw [4] (fun sv wr=>∃m M:Nat,m≤32∧sv= .int .i64 M∧Bx (M=aQ (lZ t.ay (only s0) m) 32)∧Bx (m≤cnt (lZ t.ay (only s0) m) 32)∧M<4294967296∧St w wr [ah w.heap.size 26 #[.int .i64 s0,.slice G gn gc,.slice G' n' c'],pF (.slice RA n' RC) t.ay]) (fun sv _=>4294967296-(intOf sv).toNat)
   case atStart=>exact⟨0,_,by omega,rfl,Bx.mk rfl,Bx.mk (Nat.zero_le _),dI _,HS2.out⟩
   case round=>
    clear HS2;obtain⟨m,M,hm,rfl,HM,HC,hM,S⟩:=hrel;have HS:=af S;clear S
    go_wp2_with fail
    refine(EI RA n' RC t.ay M _ (YP.out _ _ HS.out) gy.out gQ.out yF hM).mono ?_;obtain⟨N,hN⟩:∃N,aQ (lH t.ay (gq M)) 32=N:=⟨_,rfl⟩;obtain⟨M2,hM2⟩:∃M2,aQ (lZ t.ay (only s0) (m+1)) 32=M2:=⟨_,rfl⟩;have YL:bits .or .i64 (M:Int) (N:Int)=(M2:Int):=by rw[aaJ HM.out (by rw[←hN,HM.out];exact QK _),hM2]
    have hle:M≤M2:=by rw[←hM2,HM.out];exact VP
    have aaM:M2<4294967296:=by rw[←hM2];exact dI _
    have iO:=Bx.mk hM2;rw[hN];rintro e w3 ⟨rfl,hb3⟩;have cu:=af (HS.out.quiet hb3);clear hb3 hN hM2
    by_cases he:M2=M
    ·have HF:Bx (aQ (lZ t.ay (only s0) m) 32=aQ (lZ t.ay (only s0) 32) 32):=Bx.mk (QJ hm (by rw[iO.out,←HM.out];exact he));subst he;go_wp2;go_ret;exact⟨aP (by rw[UE.out,←HF.out,←HM.out]),cu.out.below⟩
    ·have hne:((M2:Int) == (M:Int))=false:=by simp;omega
     have HC2:Bx (m+1≤cnt (lZ t.ay (only s0) (m+1)) 32):=Bx.mk (MR (by rw[iO.out,←HM.out];exact he) HC.out);have hm2:m+1≤32:=by have:=cnt_le (lZ t.ay (only s0) (m+1)) 32;have:=HC2.out;omega
     have hlt:M<M2:=by omega
     clear he hle;go_wp2
     go_roundw
     case rel=>exact⟨m+1,M2,hm2,rfl,Bx.mk iO.out.symm,HC2,aaM,cu.out⟩
     case measure=>simp[intOf];omega
def aaQ:Nat→(Nat→Int)→Int
 |0,_=>0
 |n+1,f=>aaQ n f+f n
def aaR {α:Type} (l:List α) (f:α→Int):Int:=(l.map f).sum
def fwN (ds:List au) (s0:Nat):Nat→Nat→Int
 |0,s=>if s=s0 then 1 else 0
 |n+1,s=>aaQ 32 fun s'=>aaR ds fun d=>if bD d s'=some s then fwN ds s0 n s' else 0
section
variable {ds : List au} {S : Nat → Bool} {s0 : Nat}
end
def wrap (x:Int):Int:=(x+9223372036854775808)%18446744073709551616-9223372036854775808
def addN (ds:List au) (s0 k:Nat) (s' s:Nat) (d:au):Int:=if MS ds (only s0) s'=(k:Int)∧bD d s'=some s then fwN ds s0 k s' else 0
def acO (ds:List au) (s0 k st j s:Nat):Int:=aaQ st (fun s'=>aaR ds (addN ds s0 k s' s))+aaR (ds.take j) (addN ds s0 k st s)
def aeR (ds:List au) (s0 k st j s:Nat):Int:=
 if MS ds (only s0) s=((k+1:Nat):Int) then wrap (acO ds s0 k st j s) else if 0≤MS ds (only s0) s∧MS ds (only s0) s≤k then wrap (fwN ds s0 (MS ds (only s0) s).toNat s) else 0
section
variable {ds : List au} {S : Nat → Bool} {s0 : Nat}
end
def zZ (k:Nat):List (List Int):=if k=0 then [] else [(k:Int)-1]::fC (k-1)
def acB (k:Nat):Nat→List Int
 |0=>[(k:Int)-1]
 |m+1=>acB k m++[(m:Int),7,8]
def lM (k:Nat):au:=⟨fM (zZ k),0,0,2^k⟩
theorem Bo:∀k:Nat,k<5→(lM k).need.length≤1048576∧(Lit.int .i64 (lM k).on).wf=true∧(Lit.int .i64 (lM k).off).wf=true∧(Lit.int .i64 (lM k).flip).wf=true:=by decide+kernel
def kY (m:Nat):List au:=(List.range m).map lM
theorem uZ (m:Nat):kY (m+1)=kY m++[lM m]:=by simp[kY,List.range_succ]
theorem jE (m:Nat):(kY m).length=m:=by simp[kY]
def kR (r s:Int):aB:=if ny r s=true then⟨s,fM (fC r.toNat),kY r.toNat⟩ else⟨0,[],[]⟩
def ji (k j:Nat):List (List Int):=(if k=0 then [] else [[(k:Int)-1]])++fC j
theorem LQ (k j:Nat):ji k (j+1)=ji k j++[kL j]:=by unfold ji;rw[ve,List.append_assoc]
theorem Bq (k:Nat):ji k (k-1)=zZ k:=by
 unfold ji zZ
 by_cases h:k=0
 ·subst h;rfl
 ·rw[if_neg h,if_neg h];rfl
theorem Ej (k j:Nat):(ji k j).length≤j+1:=by unfold ji;split<;>simp[lN]<;>omega
theorem yP (k j:Nat):∀xs∈ji k j,xs.length≤64:=by
 intro xs hx
 unfold ji fC at hx
 rcases List.mem_append.1 hx with hx | hx
 ·split at hx
  ·simp at hx
  ·simp at hx;subst hx;simp
 ·obtain⟨i,-,rfl⟩:=List.mem_map.1 hx;simp[kL]
theorem Di (r s:Int) (w:World) (hs:(Lit.int .i64 s).wf=true):
  Calls Tryz.prog 101 #[.int .i64 r,.int .i64 s] w fun e w'=>(∃v F,e= .returned v∧pU w' w.heap.size v (kR r s) F∧F.Nodup)∧Below w.heap.size w w':=by
 have zero:ny r s=false→∀wf,Only [w.heap.size] (w.alloc (Obj.cells #[.int .i64 0,.slice none 0 0,.slice none 0 0] 26)) wf→(∃v F,Ending.returned (.agg #[.int .i64 0,.slice none 0 0,.slice none 0 0])= .returned v∧pU wf w.heap.size v (kR r s) F∧F.Nodup)∧Below w.heap.size w wf:=fun hin wf hon=>
  ⟨⟨_,[],rfl,by unfold kR;rw[if_neg (by simp[hin])];exact pU.zero _ _,List.nodup_nil⟩,((ai _ _).alloc (aA _) _).trans (hon.below (by simp) (by simp))⟩
 have ZERO:=af zero;clear zero
 by_cases hr1:1≤r∧r≤5
 ·obtain⟨m,rfl⟩:∃m:Nat,r=(m:Int):=⟨r.toNat,by omega⟩;have hw:=iK m (by omega);have hw1:1≤(2:Int)^m:=Int.pow_pos (by omega);have hw2:=jS m 5 (by omega)
  by_cases hs1:0≤s∧s≤2^m-1
  ·have hin:ny m s=true:=by unfold ny;rw[bW];exact decide_eq_true ⟨hr1.1,hr1.2,hs1.1,by omega⟩
   obtain⟨-,-,hs0,hs2⟩:=OW m s hin;have HT:Hid (kR (m:Int) s=⟨s,fM (fC m),kY m⟩):=af (by unfold kR;rw[if_pos hin,bW]);have HB0:Hid (Below w.heap.size w (w.alloc (Obj.cells #[.int .i64 0,.slice none 0 0,.slice none 0 0] 26))):=af ((ai _ _).alloc (aA _) _);clear hin ZERO;go_enter Tryz.func101,Tryz.ntmps101
   go_wp2_with (go_at_call 125;refine(fO _ _ _ _ (by omega) (by omega)).mono ?_;rintro e w' ⟨rfl,rfl⟩)
   refine(OX m _ (by omega)).mono ?_;rintro e w1 ⟨⟨gv,Fg,rfl,hog,hgl⟩,hb1⟩;simp only[World.size_alloc] at hog hb1;have hs1':=hb1.size;obtain⟨Ag,cg,hgv⟩:=dR hog.row;subst hgv;simp only[World.size_alloc] at hs1';have Zt:=adw hb1;have HG:=af hog;have HR:=af Zt;have HB1:Hid (Below w.heap.size w w1):=af (HB0.out.trans (hb1.mono (by omega)));clear hog hb1 Zt;go_wp2
   go_loopw [6] (fun i wr=>∃(k:Nat) (dv:Value) (cells:List Value) (Fs:List (List Nat)),k≤m∧i= .int .i64 k∧fU wr (w1.heap.size+1) 26 #[.int .i64 s,.slice Ag (fM (fC m)).length cg,dv]∧jZ wr w1.heap.size (w1.heap.size+1) dv (kY k) cells Fs∧Below w1.heap.size w1 wr) (fun i _=>m-(intOf i).toNat)
   case atStart=>exact⟨0,_,[],[],by omega,rfl,(fU.new (w1.alloc (.cells #[] 144)) 26 #[.int .i64 s,.slice Ag (fM (fC m)).length cg,.slice (some ⟨w1.heap.size,0,none⟩) 0 0]|>(by simpa using ·)),(jZ.lit w1 w1.heap.size (w1.heap.size+1) (aA _) (by omega)).below ((ai _ _).alloc (aA _) _),((ai _ _).alloc (aA _) _).alloc (by simp) _⟩
   case round=>
    obtain⟨k,dv,cells,Fs,hk,rfl,hblk,hp,hbel⟩:=hrel;have hsz:=hbel.size;have hTl:=hblk.lt
    by_cases hlt:k<m
    ·obtain⟨wo,hwo⟩:∃wo,wo=wr:=⟨_,rfl⟩;subst hwo
     by_cases h0:0<k
     ·have HK1:=af (jH.lit (wo.alloc (.cells #[] 23)) (wo.alloc (.cells #[] 23)).heap.size [(k:Int)-1] (aA _) (by unfold maxLen;simp) (by
       intro x hx
       simp at hx
       subst hx
       exact bU (by omega)))
      have hol:=sF.lit wo wo.heap.size (aA _);have hrow:=hol.row
      go_wp2_with (at_builtin;refine cZ Vu rfl _ _ rfl wo.heap.size _ 0 [] rfl (hrow.alloc _ |>.alloc _) _ _ 1 1 [.slice (some ⟨wo.heap.size+1,0,none⟩) 1 1] rfl (bJ.newAt ((wo.alloc (.cells #[] 23)).alloc (.cells #[.int .i64 ((k:Int)-1)] 3)) [.slice (some ⟨wo.heap.size+1,0,none⟩) 1 1] 23 1 1 (wo.heap.size+1+1) (by simp) rfl (by unfold maxLen;omega)) (by simp[Value.oneCell']) (by omega) (by omega) (by simp;omega) ?_;intro v4 w4 hown4 hg4 yO)
      have hk1:=HK1.out;simp only[World.size_alloc] at hk1;have hp4:=hol.app (xs:=[(k:Int)-1]) (F:=[wo.heap.size+1]) (by simp) ((((ai _ _).alloc (aA _) _).alloc (by simp) _)) (by rw[World.size_alloc wo];exact(hk1.below ((ai _ _).alloc (aA _) (.cells #[.slice (some ⟨wo.heap.size+1,0,none⟩) 1 1] 23)))) rfl hown4 hg4 yO
      have HPJ:Hid (sF w4 wo.heap.size v4 (ji k 0) _):=af (by
       have:ji k 0=[[(k:Int)-1]]:=by unfold ji;rw[if_neg (by omega)];rfl
       rw[this];exact hp4)
      have HBJ:Hid (Below wo.heap.size wo w4):=af (((((ai _ _).alloc (aA _) _).alloc (by simp) _).alloc (by simp;omega) _).grown hg4 (by simp;omega) (fun b hb=>by have:=(hrow.lt b hb).1;omega));clear hk1 hp4 hol hrow hown4 hg4 yO HK1;go_wp2
      generalize decide (0<k)=bb
      go_loopw [8,7] (fun i v wr=>∃(j:Nat) (vs:List Value),j≤k-1∧i= .int .i64 j∧sF wr wo.heap.size v (ji k j) vs∧Below wo.heap.size wo wr) (fun i _ _=>k-(intOf i).toNat)
      case atStart=>exact⟨0,_,by omega,rfl,HPJ.out,HBJ.out⟩
      case round=>
       obtain⟨j,vs,hj,rfl,hpp,hbi⟩:=hrel;have OY:=hbi.size;have hpl:=Ej k j
       by_cases hjl:j+1<k
       ·have hrow:=hpp.row
        have HO:=af (jH.lit wr wr.heap.size (kL j) (aA _) (by simp[kL];unfold maxLen;omega) (by
         intro x hx
         simp[kL] at hx
         rcases hx with rfl | rfl
         ·exact bU (by omega)
         ·rfl))
        have HK:=af (LQ k j)
        go_wp2_with (at_builtin;refine cZ Vu rfl _ _ rfl wo.heap.size _ _ vs rfl (hrow.alloc _ |>.alloc _) _ _ 1 1 [.slice (some ⟨wr.heap.size,0,none⟩) 2 2] rfl (bJ.newAt (wr.alloc (.cells #[.int .i64 j,.int .i64 7] 3)) [.slice (some ⟨wr.heap.size,0,none⟩) 2 2] 23 1 1 (wr.heap.size+1) (by simp) rfl (by unfold maxLen;omega)) (by simp[Value.oneCell']) (by omega) (by omega) (by simp;omega) ?_;intro v3 w3 hown3 hg3 mJ)
        have hp3:=hpp.app OY (((ai _ _).alloc (aA _) _).alloc (by simp) _) (HO.out.below ((ai _ _).alloc (aA _) (.cells #[.slice (some ⟨wr.heap.size,0,none⟩) 2 2] 23))) rfl hown3 hg3 mJ;rw[←HK.out] at hp3;have hb3:Below wo.heap.size wo w3:=((hbi.alloc OY _).alloc (by simp;omega) _).grown hg3 (by simp;omega) (fun b hb=>by have:=(hrow.lt b hb).1;omega);clear hown3 hg3 mJ hrow;go_wp2
        go_roundw
        case rel=>exact⟨j+1,_,by omega,by go_num,hp3,hb3⟩
        case measure=>simp[intOf];omega
       ·have hjk:j=k-1:=by omega
        subst hjk;obtain⟨Ap,cp,hv,hrp⟩:=hpp.rd;subst hv;have aaw:WW wr.drew wr.heap.size Ap (ji k (k-1)).length cp (ji k (k-1)):=hrp.below (ai _ _).drew;have Oh:=af (yP k (k-1));have HNP:Hid (fM (ji k (k-1))=(lM k).need):=af (by rw[Bq];rfl);have gQ:=af (Bo k (by omega));have aax:Hid (IntKind.i64.wrap (2^k)=2^k):=af ((IntWalk.i64_left _).trans (iK k (by omega)));have ql:=hblk.below hbi hTl;have hpi:=hp.below hbi;have nO:Hid (∀wx,Below wr.heap.size wr wx→wx.ownsRow w1.heap.size 144 4 dv k cells):=af (fun wx hx=>by have:=(hpi.below hx).own.row;rw[jE] at this;exact this);have hdT:wr.cell? ⟨w1.heap.size+1,2,none⟩=some dv:=ql.cell 2;have hfz:∀i,wr.frozen? ⟨w1.heap.size+1,i,none⟩=false:=ql.frozen;clear hpp hrp;go_wp2
        go_region_law (first
         | (go_simp;go_at_call 156;refine(Aa Ap _ cp _ _ aaw Oh.out (by omega)).mono ?_;rintro e w2 ⟨⟨v2,F2,rfl,ho2,hl2⟩,hb2⟩;obtain⟨A2,c2,hv2⟩:=dR ho2.row;subst hv2;have hbx:Below wr.heap.size wr w2:=(ai wr.heap.size wr).drew.trans hb2;have d2:w2.cell? ⟨w1.heap.size+1,2,none⟩=some dv:=(aF hbx _ _ ql.lt).trans hdT;have d3:∀o,(w2.alloc o).cell? ⟨w1.heap.size+1,2,none⟩=some dv:=fun o=>(aF (hbx.alloc hbx.size o) _ _ ql.lt).trans hdT)
         | (refine KX zJ rfl (.tmp 52) (.tmp 58) rfl w1.heap.size dv k cells rfl ((nO.out _ hbx).alloc _) _ _ 1 1 [.slice A2 _ c2,.int .i64 0,.int .i64 0,.int .i64 _] rfl (bJ.new w2 [.slice A2 _ c2,.int .i64 0,.int .i64 0,.int .i64 _] 144 4 1 rfl (by unfold maxLen;omega)) (by omega) (by simp[Value.oneCell']) (by omega) (by omega) (by have:=hbx.size;simp;omega) ?_;intro v3 w3 hown3 hg3 mJ;have hblk3:fU w3 (w1.heap.size+1) 26 _:=(ql.below (w':=w2.alloc (.cells #[.slice A2 _ c2,.int .i64 0,.int .i64 0,.int .i64 _] 144)) (hbx.alloc hbx.size _) ql.lt).grown hg3 (Ne.symm hp.ne);obtain⟨A3,c3,hv3⟩:=dR hown3;subst hv3;have f3:∀i,w3.frozen? ⟨w1.heap.size+1,i,none⟩=false:=hblk3.frozen;have e3:w3.cell? ⟨w1.heap.size+1,2,none⟩=some dv:=hblk3.cell 2))
        all_goals (
         have yt:Below wo.heap.size wo w2:=hbi.trans (hbx.mono OY);have Vw:=yt.size;have hp3:=hp.app (d:=lM k) hsz hTl (yt.alloc Vw _) ((by rw[←HNP.out];exact((ho2.mono OY).below ((ai _ _).alloc (aA _) _)))) gQ.out.1 gQ.out.2 (by rw[jE];omega) (by rw[jE]) (by rw[aax.out] at hown3;exact hown3) hg3 mJ;rw[←uZ] at hp3;have Yw:Below w1.heap.size w1 w3:=((hbel.trans (yt.mono hsz)).alloc (Nat.le_trans hsz Vw) _).grown hg3 (by simp;omega) (fun b hb=>(hp.own.row.lt b hb).1);have hpF:=hp3.only ((Only.refl [w1.heap.size+1] w3).set (p:=⟨w1.heap.size+1,2,none⟩) (by simp) (.slice A3 (k+1) c3));have aay:=Yw.setCell (p:=⟨w1.heap.size+1,2,none⟩) (Nat.le_succ _) (.slice A3 (k+1) c3);have Vx:=hblk3.nM 2 (.slice A3 (k+1) c3);clear hp3 Yw hblk3 f3 e3 hown3 hg3 mJ hdT d2 d3 hfz hpi ql;go_wp2
         go_roundw
         case rel=>exact⟨k+1,_,_,_,by omega,by go_num,Vx,hpF,aay⟩
         case measure=>simp[intOf];omega)
     ·have HPJ:Hid (sF (wo.alloc (.cells #[] 23)) wo.heap.size (.slice (some ⟨wo.heap.size,0,none⟩) 0 0) (ji k 0) []):=af (by
       have:ji k 0=[]:=by unfold ji;rw[if_pos (by omega)];rfl
       rw[this];exact sF.lit wo _ (aA _))
      have HBJ:Hid (Below wo.heap.size wo (wo.alloc (.cells #[] 23))):=af ((ai _ _).alloc (aA _) _);go_wp2
      generalize decide (0<k)=bb
      go_loopw [8,7] (fun i v wr=>∃(j:Nat) (vs:List Value),j≤k-1∧i= .int .i64 j∧sF wr wo.heap.size v (ji k j) vs∧Below wo.heap.size wo wr) (fun i _ _=>k-(intOf i).toNat)
      case atStart=>exact⟨0,_,by omega,rfl,HPJ.out,HBJ.out⟩
      case round=>
       obtain⟨j,vs,hj,rfl,hpp,hbi⟩:=hrel;have OY:=hbi.size;have hpl:=Ej k j
       by_cases hjl:j+1<k
       ·omega
       ·have hjk:j=k-1:=by omega
        subst hjk;obtain⟨Ap,cp,hv,hrp⟩:=hpp.rd;subst hv;have aaw:WW wr.drew wr.heap.size Ap (ji k (k-1)).length cp (ji k (k-1)):=hrp.below (ai _ _).drew;have Oh:=af (yP k (k-1));have HNP:Hid (fM (ji k (k-1))=(lM k).need):=af (by rw[Bq];rfl);have gQ:=af (Bo k (by omega));have aax:Hid (IntKind.i64.wrap (2^k)=2^k):=af ((IntWalk.i64_left _).trans (iK k (by omega)));have ql:=hblk.below hbi hTl;have hpi:=hp.below hbi;have nO:Hid (∀wx,Below wr.heap.size wr wx→wx.ownsRow w1.heap.size 144 4 dv k cells):=af (fun wx hx=>by have:=(hpi.below hx).own.row;rw[jE] at this;exact this);have hdT:wr.cell? ⟨w1.heap.size+1,2,none⟩=some dv:=ql.cell 2;have hfz:∀i,wr.frozen? ⟨w1.heap.size+1,i,none⟩=false:=ql.frozen;clear hpp hrp;go_wp2
        go_region_law (first
         | (go_simp;go_at_call 156;refine(Aa Ap _ cp _ _ aaw Oh.out (by omega)).mono ?_;rintro e w2 ⟨⟨v2,F2,rfl,ho2,hl2⟩,hb2⟩;obtain⟨A2,c2,hv2⟩:=dR ho2.row;subst hv2;have hbx:Below wr.heap.size wr w2:=(ai wr.heap.size wr).drew.trans hb2;have d2:w2.cell? ⟨w1.heap.size+1,2,none⟩=some dv:=(aF hbx _ _ ql.lt).trans hdT;have d3:∀o,(w2.alloc o).cell? ⟨w1.heap.size+1,2,none⟩=some dv:=fun o=>(aF (hbx.alloc hbx.size o) _ _ ql.lt).trans hdT)
         | (refine KX zJ rfl (.tmp 52) (.tmp 58) rfl w1.heap.size dv k cells rfl ((nO.out _ hbx).alloc _) _ _ 1 1 [.slice A2 _ c2,.int .i64 0,.int .i64 0,.int .i64 _] rfl (bJ.new w2 [.slice A2 _ c2,.int .i64 0,.int .i64 0,.int .i64 _] 144 4 1 rfl (by unfold maxLen;omega)) (by omega) (by simp[Value.oneCell']) (by omega) (by omega) (by have:=hbx.size;simp;omega) ?_;intro v3 w3 hown3 hg3 mJ;have hblk3:fU w3 (w1.heap.size+1) 26 _:=(ql.below (w':=w2.alloc (.cells #[.slice A2 _ c2,.int .i64 0,.int .i64 0,.int .i64 _] 144)) (hbx.alloc hbx.size _) ql.lt).grown hg3 (Ne.symm hp.ne);obtain⟨A3,c3,hv3⟩:=dR hown3;subst hv3;have f3:∀i,w3.frozen? ⟨w1.heap.size+1,i,none⟩=false:=hblk3.frozen;have e3:w3.cell? ⟨w1.heap.size+1,2,none⟩=some dv:=hblk3.cell 2))
        all_goals (
         have yt:Below wo.heap.size wo w2:=hbi.trans (hbx.mono OY);have Vw:=yt.size;have hp3:=hp.app (d:=lM k) hsz hTl (yt.alloc Vw _) ((by rw[←HNP.out];exact((ho2.mono OY).below ((ai _ _).alloc (aA _) _)))) gQ.out.1 gQ.out.2 (by rw[jE];omega) (by rw[jE]) (by rw[aax.out] at hown3;exact hown3) hg3 mJ;rw[←uZ] at hp3;have Yw:Below w1.heap.size w1 w3:=((hbel.trans (yt.mono hsz)).alloc (Nat.le_trans hsz Vw) _).grown hg3 (by simp;omega) (fun b hb=>(hp.own.row.lt b hb).1);have hpF:=hp3.only ((Only.refl [w1.heap.size+1] w3).set (p:=⟨w1.heap.size+1,2,none⟩) (by simp) (.slice A3 (k+1) c3));have aay:=Yw.setCell (p:=⟨w1.heap.size+1,2,none⟩) (Nat.le_succ _) (.slice A3 (k+1) c3);have Vx:=hblk3.nM 2 (.slice A3 (k+1) c3);clear hp3 Yw hblk3 f3 e3 hown3 hg3 mJ hdT d2 d3 hfz hpi ql;go_wp2
         go_roundw
         case rel=>exact⟨k+1,_,_,_,by omega,by go_num,Vx,hpF,aay⟩
         case measure=>simp[intOf];omega)
    ·have hkm:k=m:=by omega
     subst hkm;have LU:=HR.out.below hbel (by omega);have a0:wr.cell? ⟨w1.heap.size+1,0,none⟩=some (.int .i64 s):=hblk.cell 0;have a1:wr.cell? ⟨w1.heap.size+1,1,none⟩=some (.slice Ag (fM (fC k)).length cg):=hblk.cell 1;have a2:wr.cell? ⟨w1.heap.size+1,2,none⟩=some dv:=hblk.cell 2;have r0:wr.cell? ⟨w.heap.size,0,none⟩=some (.int .i64 0):=LU.cell 0;have r1:wr.cell? ⟨w.heap.size,1,none⟩=some (.slice none 0 0):=LU.cell 1;have r2:wr.cell? ⟨w.heap.size,2,none⟩=some (.slice none 0 0):=LU.cell 2;have fr:∀i,wr.frozen? ⟨w.heap.size,i,none⟩=false:=LU.frozen;obtain⟨Ad,cd,hdv⟩:=dR hp.own.row;rw[jE] at hdv;subst hdv;have hot:=pU.WU (lo:=w.heap.size) (t:=⟨s,fM (fC k),kY k⟩) (HG.out.below hbel) (by simp only;omega) hp hs (by omega) (by omega) (fun b hb=>(HG.out.lt b hb).2)
     have key:∀wf,Only [w.heap.size] wr wf→(∃v F,Ending.returned (.agg #[.int .i64 s,.slice Ag (fM (fC k)).length cg,.slice Ad k cd])= .returned v∧pU wf w.heap.size v (kR k s) F∧F.Nodup)∧Below w.heap.size w wf:=fun wf hon=>
      ⟨⟨_,_,rfl,by rw[HT.out];exact hot.1.keep fun b hb=>hon.block b (hot.1.lt b hb).2 (by
       simp only[List.mem_singleton];rintro rfl
       rcases List.mem_append.1 hb with hx | hx
       ·have:=(HG.out.lt _ hx).1;omega
       ·have:=(hp.own.lt _ hx).1;omega),hot.2⟩,(HB1.out.trans (hbel.mono (by omega))).trans (hon.below (by simp) (by omega))⟩
     have KEY:=af key;clear key hot LU hp hblk;go_wp2;refine bodyPost_ret (v:=.agg #[.int .i64 s,.slice Ag (fM (fC k)).length cg,.slice Ad k cd]) (by simp[results,Tryz.results101,go_sem,a0,a1,a2,r0,r1,r2]) rfl (KEY.out _ ?_)
     repeat' (first | with_reducible exact Only.refl _ _ | with_reducible refine Only.set ?_ ?_ _)
     all_goals simp
  ·have hin:ny m s=false:=by unfold ny;rw[bW];exact decide_eq_false (by omega)
   have KEY:=af (ZERO.out hin);clear ZERO hin;go_enter Tryz.func101,Tryz.ntmps101
   go_wp2_with (first | (go_at_call 125;refine(fO _ _ _ _ (by omega) (by omega)).mono ?_;rintro e w' ⟨rfl,rfl⟩) | (go_at_call 125;refine(kS _ _ _ _ (by omega)).mono ?_;rintro e w' ⟨rfl,rfl⟩))
   refine bodyPost_ret (v:=.agg #[.int .i64 0,.slice none 0 0,.slice none 0 0]) (by simp[results,Tryz.results101,go_sem]) rfl (KEY.out _ ?_)
   repeat' (first | with_reducible exact Only.refl _ _ | with_reducible refine Only.set ?_ ?_ _)
   all_goals simp
 ·have hin:ny r s=false:=by unfold ny;exact decide_eq_false (by omega)
  have KEY:=af (ZERO.out hin);clear ZERO hin;go_enter Tryz.func101,Tryz.ntmps101
  go_wp2_with (go_at_call 125;refine(kS _ _ _ _ (by omega)).mono ?_;rintro e w' ⟨rfl,rfl⟩)
  refine bodyPost_ret (v:=.agg #[.int .i64 0,.slice none 0 0,.slice none 0 0]) (by simp[results,Tryz.results101,go_sem]) rfl (KEY.out _ ?_)
  repeat' (first | with_reducible exact Only.refl _ _ | with_reducible refine Only.set ?_ ?_ _)
  all_goals simp
end Go.Proofs.YtkmcengmglgdeaaGreatDoor
