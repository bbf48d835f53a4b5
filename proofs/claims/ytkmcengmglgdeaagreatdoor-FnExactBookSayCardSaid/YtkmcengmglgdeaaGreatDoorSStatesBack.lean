/- Joined texts: StatesBack, StepsLeast. -/
import Derived.Test.YtkmcengmglgdeaaGreatDoorSBack
import Derived.Test.YtkmcengmglgdeaaGreatDoorSPlanForW
import Derived.Test.YtkmcengmglgdeaaGreatDoorSCopy

namespace Go.Proofs.YtkmcengmglgdeaaGreatDoor
set_option linter.unusedVariables false
set_option linter.unusedSimpArgs false
set_option maxRecDepth 100000
set_option maxHeartbeats 8000000
open Go.ChangeShapes Go.WideShapes Go.ChangeAt Go.RowKit
def wP (ds:List aj) (S m k s:Nat):Bool:=upto (dO ds (fD S)) m s||(decide (s=m)&&dO (ds.take k) (fD S) m)
theorem QH (ds:List aj) (S m:Nat):aN (wP ds S m 0) 32=aN (upto (dO ds (fD S)) m) 32:=bY fun s _=>by simp[wP,dO]
theorem CX (ds:List aj) (S m k:Nat) (d:aj) (h:ds[k]? =some d):dO (ds.take (k+1)) (fD S) m=(dO (ds.take k) (fD S) m||AX d S m):=by
 rw[take_succ' h]
 simp[dO,AX]
theorem O7 (ds:List aj) (S m k:Nat) (d:aj) (h:ds[k]? =some d) (hh:AX d S m=false):aN (wP ds S m (k+1)) 32=aN (wP ds S m k) 32:=bY fun s _=>by
 unfold wP
 rw[CX ds S m k d h,hh,Bool.or_false]
theorem Uh (ds:List aj) (S m k:Nat) (d:aj) (h:ds[k]? =some d) (hh:AX d S m=true):∀s,s<32→wP ds S m (k+1) s=(wP ds S m k s||decide (m=s)):=fun s _=>by
 unfold wP
 rw[CX ds S m k d h,hh,Bool.or_true,Bool.and_true]
 by_cases e:s=m
 ·subst e;simp
 ·simp[e,Ne.symm e]
theorem Ui (ds:List aj) (S m k:Nat) (hk:ds.length≤k):aN (wP ds S m k) 32=aN (upto (dO ds (fD S)) (m+1)) 32:=bY fun s _=>by
 unfold wP upto
 rw[dJ hk]
 by_cases e:s=m
 ·subst e;simp
 ·simp[e,show(s<m+1)↔(s<m) by omega]
theorem vW {p q:Nat→Bool} {M k:Nat} (hk:k<32) (hM:M=aN p 32) (hq:∀j,j<32→q j=(p j||decide (k=j))):(((M:Int).toNat ||| ((2:Int)^k).toNat:Nat):Int)=((aN q 32:Nat):Int):=by
 have e:((2:Int)^k)=((2^k:Nat):Int):=by push_cast;rfl
 rw[e,dD,dD,hM,qg _ _ _ hk,bY hq]
theorem CY {k:Nat} (h:k<32):(0:Int)≤2^k∧(2:Int)^k<4294967296:=by
 have e:((2:Int)^k)=((2^k:Nat):Int):=by push_cast;rfl
 have h1:=xO h;rw[e]
 generalize 2^k=N at h1
 omega
theorem AV (v:Value) (t:aB) (S:Nat) (w:World) (h:nI w w.heap.size v t) (hok:aK t=true) (hS:S<4294967296):
  Calls Tryz.prog 186 #[v,.int .i64 S] w fun e w'=>e= .returned (.int .i64 (aN (dO t.ax (fD S)) 32:Nat))∧Below w.heap.size w w':=by
 have h':=h;obtain⟨G,gn,gc,G',n',c',rfl,hg,hgs,hds,hst⟩:=h;have S0:=(St.refl w).alloc #[.int .i64 t.start,.slice G gn gc,.slice G' n' c'] 26;have HT:=af (h'.up S0.below);have aQ:=af S0;have bC:=af hok;have fF:=af hds.len;have yM:=af hds;obtain⟨-,-,oq,iq⟩:=aJ t hok;have gU:=af iq;have xK:n'≤6:=by rw[←hds.len];exact oq
 obtain⟨B,hB⟩:∃B,aN (dO t.ax (fD S)) 32=B:=⟨_,rfl⟩;have HB:=Bx.mk hB;rw[hB];clear S0 h' hok hds oq iq hB hg;go_enter Tryz.func186,Tryz.ntmps186
 go_wp2_with fail
 refine(bP _ t _ HT.out).mono ?_;rw[bC.out];rintro e w1 ⟨rfl,hb1⟩;have bG:=af (aQ.out.quiet hb1);clear hb1
 go_wp2_with fail
 refine(fB (S:Int) 0 4294967295 _ (by omega) (by omega)).mono ?_;rintro e w2 ⟨rfl,rfl⟩;go_wp2
 go_loopw [6,5] (fun i sv wr=>∃m M:Nat,m≤32∧i= .int .i64 m∧sv= .int .i64 M∧Bx (M=aN (upto (dO t.ax (fD S)) m) 32)∧St w wr [ah w.heap.size 26 #[.int .i64 t.start,.slice G gn gc,.slice G' n' c']]) (fun i _ _=>32-(intOf i).toNat)
 case atStart=>exact⟨0,0,by omega,rfl,rfl,Bx.mk (ru _ _).symm,bG.out⟩
 case round=>
  obtain⟨m,M,hm,rfl,rfl,HM,MM⟩:=hrel;have rV:=af MM;clear MM
  by_cases hlt:m<32
  ·have Bz:Bx (M=aN (wP t.ax S m 0) 32):=Bx.mk (HM.out.trans (QH _ _ _).symm);clear HM;go_wp2
   try generalize decide ((m:Int)<32)=dm
   go_loopw [7,5] (fun i sv wr=>∃k M:Nat,k≤n'∧i= .int .i64 k∧sv= .int .i64 M∧Bx (M=aN (wP t.ax S m k) 32)∧St w wr [ah w.heap.size 26 #[.int .i64 t.start,.slice G gn gc,.slice G' n' c']]) (fun i _ _=>n'-(intOf i).toNat)
   case atStart=>exact⟨0,M,by omega,rfl,rfl,Bz,rV.out⟩
   case round=>
    clear Bz rV;obtain⟨k,M1,hk,rfl,rfl,HM,MM⟩:=hrel;have q0:=MM.cells 0 rfl;have rV:=af MM;clear MM
    by_cases hkn:k<n'
    ·obtain⟨b,off,d,rfl,hb,hd,hda⟩:=yM.out.get hkn;obtain⟨An,nn,cn,p0,p1,p2,p3,bW,hnn,-⟩:=hda;have r0:wr.cell? ⟨b,off+k*4,none⟩=some (.slice An nn cn):=(aC rV.out.below b _ hb).trans p0;have r1:wr.cell? ⟨b,off+k*4+1,none⟩=some (.int .i64 d.on):=(aC rV.out.below b _ hb).trans p1;have r2:wr.cell? ⟨b,off+k*4+2,none⟩=some (.int .i64 d.off):=(aC rV.out.below b _ hb).trans p2;have r3:wr.cell? ⟨b,off+k*4+3,none⟩=some (.int .i64 d.flip):=(aC rV.out.below b _ hb).trans p3;have HDK:=af (gU.out d (bU hd));have HD0:=af hd;have J8:=af bW;obtain⟨o,ho⟩:∃o,aX d m=o:=⟨_,rfl⟩;have HO:=af ho;clear p0 p1 p2 p3 bW hd ho
     go_wp2_with fail
     refine(um An nn cn d m _ (J8.out.up rV.out.below) HDK.out hlt).mono ?_;rw[HO.out];rintro e w3 ⟨rfl,hb3⟩;have BA:=af (rV.out.quiet hb3);clear hb3 q0 r0 r1 r2 r3
     cases o with
     |none=>
      have gY:Bx (M1=aN (wP t.ax S m (k+1)) 32):=Bx.mk (HM.out.trans (O7 _ _ _ _ d HD0.out (FW d S m HO.out)).symm);simp only[opt];go_wp2
      go_roundw
      case rel=>exact⟨k+1,M1,by omega,by go_num,rfl,gY,BA.out⟩
      case measure=>simp[intOf];omega
     |some q=>
      have hq:=gu d m q HDK.out hlt HO.out;simp only[opt]
      go_wp2_with fail
      refine(jO S q (by omega) _).mono ?_;rintro e w4 ⟨rfl,rfl⟩
      by_cases hs1:bit S q=1
      ·have hpw:=lg m (by omega);obtain⟨hp0,hp1⟩:=CY hlt;obtain⟨M2,hM2⟩:∃M2,aN (wP t.ax S m (k+1)) 32=M2:=⟨_,rfl⟩
       have XY:Bx ((((M1:Int).toNat ||| ((2:Int)^m).toNat:Nat):Int)=(M2:Int)):=Bx.mk (by
        rw[←hM2]
        exact vW hlt HM.out (Uh t.ax S m k d HD0.out (by rw[vG d S m q HO.out,hs1];rfl)))
       have gY:=Bx.mk hM2.symm;have hM1:M1<4294967296:=by rw[HM.out];exact cZ _
       rw[hs1];clear hs1 hM2
       go_wp2_with fail
       refine(nZ (M1:Int) (2^m) (by omega) (by omega) (by omega) (by omega) _).mono ?_;rw[XY.out];rintro e w5 ⟨rfl,rfl⟩;clear hp0 hp1 hM1 hpw;go_wp2
       go_roundw
       case rel=>exact⟨k+1,M2,by omega,by go_num,rfl,gY,BA.out⟩
       case measure=>simp[intOf];omega
      ·have hs0:bit S q=0:=by have:=jI S q;omega
       have gY:Bx (M1=aN (wP t.ax S m (k+1)) 32):=Bx.mk (HM.out.trans (O7 _ _ _ _ d HD0.out (by rw[vG d S m q HO.out,hs0];rfl)).symm);rw[hs0];clear hs1 hs0;go_wp2
       go_roundw
       case rel=>exact⟨k+1,M1,by omega,by go_num,rfl,gY,BA.out⟩
       case measure=>simp[intOf];omega
    ·have gY:Bx (M1=aN (upto (dO t.ax (fD S)) (m+1)) 32):=Bx.mk (HM.out.trans (Ui _ _ _ _ (by rw[fF.out];omega)));go_wp2
     go_roundw
     case rel=>exact⟨m+1,M1,by omega,by go_num,rfl,gY,rV.out⟩
     case measure=>simp[intOf];omega
  ·have HF:Bx (M=B):=Bx.mk (by rw[HM.out,show m=32 by omega,wJ,HB.out]);go_wp2;go_ret;exact⟨aG (by rw[HF.out]),rV.out.below⟩
def newP (ds:List aj) (p:Nat→Bool):Nat→Nat→Bool
 |0,s=>p s
 |m+1,s=>gG ds p m s
def CS (ds:List aj) (p:Nat→Bool):Nat→Nat→Int
 |0,_=>-1
 |m+1,s=>fK ds p m s
theorem Wp {ds:List aj} {p:Nat→Bool} {m s N:Nat} (hs:s<32) (hN:N=aN (newP ds p m) 32) (h:bit N s=1):(m:Int)=fK ds p m s:=by
 cases m with
 |zero=>
  have:p s=true:=by
   have:=jg (newP ds p 0) hs
   rw[←hN,h] at this;exact this.symm
  simp[fK,this]
 |succ m=>exact FU hs hN h
theorem Zd {ds:List aj} {p:Nat→Bool} {m s N:Nat} (hs:s<32) (hN:N=aN (newP ds p m) 32) (h:bit N s=0):fK ds p m s=CS ds p m s:=by
 cases m with
 |zero=>
  have:p s=false:=by
   have:=jg (newP ds p 0) hs
   rw[←hN,h] at this;exact this.symm
  simp[fK,CS,this]
 |succ m=>exact Kq hs hN h
theorem Kr {ds:List aj} {p:Nat→Bool} (m s:Nat) (h:layer ds p m s=false):dO ds (newP ds p m) s=dO ds (layer ds p m) s:=by
 cases m with
 |zero=>rfl
 |succ m=>
  have h0:dO ds (layer ds p m) s=false:=by
   simp only[layer,Bool.or_eq_false_iff] at h;exact h.2
  rw[Bool.eq_iff_iff]
  constructor
  ·refine Nq fun s' hs'=>?_
   have:gG ds p m s'=true:=hs'
   unfold gG at this
   simp only[Bool.and_eq_true] at this
   simp[layer,this.1]
  ·intro hb;obtain⟨d,hd,s',e,hl⟩:=jA.1 hb;refine jA.2 ⟨d,hd,s',e,?_⟩
   have h1:layer ds p m s'=false:=by
    cases e1:layer ds p m s' with
    |false=>rfl
    |true=>rw[jA.2 ⟨d,hd,s',e,e1⟩] at h0;cases h0
   show gG ds p m s'=true
   simp only[layer,h1,Bool.false_or] at hl
   unfold gG
   rw[hl,h1];rfl
def aep (ds:List aj) (p:Nat→Bool) (m:Nat):Nat→Bool:=newP ds p (m+1)
theorem Uf {ds:List aj} {p:Nat→Bool} {m s B:Nat} (hs:s<32) (hB:B=aN (dO ds (newP ds p m)) 32) (h:bit B s=1) (hn:fK ds p m s<0):newP ds p (m+1) s=true:=by
 have hl:layer ds p m s=false:=by
  cases e:layer ds p m s with
  |false=>rfl
  |true=>have:=(uq (n:=m)).2 e;omega
 have hb:dO ds (newP ds p m) s=true:=by
  have:=jg (dO ds (newP ds p m)) hs
  rw[←hB,h] at this;exact this.symm
 show gG ds p m s=true
 unfold gG
 rw[←Kr m s hl,hb,hl];rfl
theorem O6 {ds:List aj} {p:Nat→Bool} {m s B:Nat} (hs:s<32) (hB:B=aN (dO ds (newP ds p m)) 32) (h:bit B s=0∨0≤fK ds p m s):newP ds p (m+1) s=false:=by
 show gG ds p m s=false
 unfold gG
 cases e:layer ds p m s with
 |true=>simp
 |false=>
  rcases h with h | h
  ·have hb:dO ds (newP ds p m) s=false:=by
    have:=jg (dO ds (newP ds p m)) hs
    rw[←hB,h] at this;exact this.symm
   rw[←Kr m s e,hb];rfl
  ·rw[qM e] at h;omega
theorem Nr {ds:List aj} {p:Nat→Bool} {m:Nat} (hd:∀d∈ds,bJ d=true) (h:aN (newP ds p m) 32=0):(List.range 32).map (CS ds p m)=eP ds p:=by
 cases m with
 |succ m=>exact CU hd h
 |zero=>
  have h0:=kF.1 h
  have hf:jU ds p 0:=by
   intro s hs hb;obtain⟨d,hm,s',e,hp⟩:=jA.1 hb
   have:=h0 s' (gu d s s' (hd d hm) hs e)
   have hp':p s'=true:=hp;have h1:p s'=false:=this;rw[hp'] at h1;cases h1
  unfold eP
  refine List.map_congr_left fun s hs=>?_
  rw[CV hd hf (List.mem_range.1 hs)];have:p s=false:=h0 s (List.mem_range.1 hs)
  simp[CS,fK,this]
theorem Ns {ds:List aj} {p:Nat→Bool} {m:Nat} (h:aN (newP ds p m) 32≠0) (hc:∀j,m=j+1→j≤cnt (layer ds p j) 32):∀j,m+1=j+1→j≤cnt (layer ds p j) 32:=fun j hj=>by
 have:j=m:=by omega
 subst this
 cases j with
 |zero=>exact Nat.zero_le _
 |succ j=>exact Kt h (hc j rfl)
theorem least_le {ds:List aj} {p:Nat→Bool} {m:Nat} (hc:∀j,m=j+1→j≤cnt (layer ds p j) 32):m≤33:=by
 cases m with
 |zero=>omega
 |succ m=>have:=hc m rfl;have:=cnt_le (layer ds p m) 32;omega
def uw (t:aB):List Int:=if aK t then eP t.ax (aH t.goal) else []
theorem uj (t:aB) (h:aK t=false):uw t=[]:=if_neg (by rw[h];simp)
theorem sO (t:aB) (h:aK t=true):uw t=eP t.ax (aH t.goal):=if_pos h
theorem sN (v:Value) (t:aB) (w:World) (h:nI w w.heap.size v t):
  Calls Tryz.prog 158 #[v] w (Gives w id fun v=>[aA v (uw t)]):=by
 have h':=h;obtain⟨G,gn,gc,G',n',c',rfl,hg,hgs,hds,hst⟩:=h
 have S0:St w ((w.alloc (.cells #[.int .i64 t.start,.slice G gn gc,.slice G' n' c'] 26)).alloc (.cells #[] 3)) [ah w.heap.size 26 #[.int .i64 t.start,.slice G gn gc,.slice G' n' c'],aA (.slice (some ⟨w.heap.size+1,0,none⟩) 0 0) []]:=
  ((St.refl w).alloc #[.int .i64 t.start,.slice G gn gc,.slice G' n' c'] 26).call (St.zk _ _ (by simp))
 have HT:=af h';have HG:=af hg;have aQ:=af S0;clear S0 h' hg;obtain⟨bo,hok⟩:∃b,aK t=b:=⟨_,rfl⟩;have bC:=af hok;clear hok hds
 cases bo with
 |false=>
  have HN:=af (uj t bC.out);go_enter Tryz.func158,Tryz.ntmps158
  go_wp2_with fail
  refine(bP _ t _ (HT.out.up aQ.out.below)).mono ?_;rw[bC.out];rintro e w1 ⟨rfl,hb1⟩;have bG:=af (aQ.out.quiet hb1);clear hb1;go_wp2;go_ret;exact⟨_,rfl,by rw[HN.out];exact bG.out.pick [1] (by decide) rfl rfl⟩
 |true=>
  obtain⟨-,pV,-,iq⟩:=aJ t bC.out;have gU:=af iq;have Ug:=af pV;have HY:=Bx.mk (sO t bC.out);obtain⟨N0,hN⟩:∃N,kU t.goal=N:=⟨_,rfl⟩;have HN:=Bx.mk hN;have Nu:=Bx.mk (fQ t.goal Ug.out);clear iq pV hN;go_enter Tryz.func158,Tryz.ntmps158
  go_wp2_with fail
  refine(bP _ t _ (HT.out.up aQ.out.below)).mono ?_;rw[bC.out];rintro e w1 ⟨rfl,hb1⟩;have bG:=af (aQ.out.quiet hb1);clear hb1 aQ;go_wp2
  go_loopw [4,3] (fun i ov wr=>∃(k:Nat) (x3:Value),k≤32∧i= .int .i64 k∧x3=ov∧St w wr [ah w.heap.size 26 #[.int .i64 t.start,.slice G gn gc,.slice G' n' c'],aA x3 (List.replicate k (-1))]) (fun i _ _=>32-(intOf i).toNat)
  case atStart=>exact⟨0,_,by omega,rfl,rfl,bG.out⟩
  case round=>
   obtain⟨k,x3,hk,rfl,rfl,M⟩:=hrel;have HM:=af M;clear M bG
   by_cases hlt:k<32
   ·have qy:Hid (wr.ownsRow 0 3 1 x3 k (ints (List.replicate k (-1)))):=af (by have:=HM.out.rU 1 rfl;rwa[List.length_replicate] at this)
    have QG:Hid (∀v3 w3,w3.ownsRow 0 3 1 v3 (k+1) (ints (List.replicate k (-1))++[Value.int .i64 (-1)])→(wr.alloc (.cells #[.int .i64 (-1)] 3)).grownBy w3 x3.ownBlock→(v3.ownBlock=x3.ownBlock∨v3.ownBlock=some (wr.alloc (.cells #[.int .i64 (-1)] 3)).heap.size)→
      St w w3 [ah w.heap.size 26 #[.int .i64 t.start,.slice G gn gc,.slice G' n' c'],aA v3 (List.replicate (k+1) (-1))]):=
     af fun v3 w3 h1 h2 h3=>by
      have:=St.vP (v:=x3) (xs:=List.replicate k (-1)) (ys:=[-1]) ((HM.out.alloc #[.int .i64 (-1)] 3).pick [0,1] (by decide) rfl rfl) 1 rfl (by simp) h1 (by intro y hy;simp at hy;subst hy;rfl) h2 h3
      rw[←List.replicate_succ'] at this;exact this
    go_wp2_with (at_builtin;refine dX jv rfl _ _ rfl 0 x3 k (ints (List.replicate k (-1))) rfl (qy.out.alloc _) _ _ 1 1 [.int .i64 (-1)] rfl (bQ.new wr [.int .i64 (-1)] 3 1 1 rfl (by unfold maxLen;omega)) (by simp[Value.oneCell']) (by omega) (by omega) (Nat.zero_le _) ?_;intro v3 w3 hown3 hg3 uo;have oJ:=af (QG.out v3 w3 hown3 hg3 uo))
    go_wp2
    go_roundw
    case rel=>exact⟨k+1,v3,by omega,by go_num,rfl,oJ.out⟩
    case measure=>simp[intOf];omega
   ·have aa3:k=32:=by omega
    have VQ:Hid (St w wr [ah w.heap.size 26 #[.int .i64 t.start,.slice G gn gc,.slice G' n' c'],aA x3 ((List.range 32).map (CS t.ax (aH t.goal) 0))]):=af (by
     have:=HM.out
     rw[aa3] at this
     exact this)
    obtain⟨g,oc,hx3⟩:=VQ.out.J7 1 rfl (n:=32) (by simp) (by omega);subst hx3;have q1:=VQ.out.cells 0 rfl;clear HM aa3
    go_wp2_with fail
    refine(oW G gn gc t.goal _ (HG.out.up VQ.out.below) hgs).mono ?_;rw[Nu.out,HN.out];rintro e w3 ⟨rfl,hb3⟩;have dV:=af (VQ.out.quiet hb3);clear q1 hb3 VQ;obtain⟨p,hp⟩:∃p,aH t.goal=p:=⟨_,rfl⟩;have HNP:Bx (N0=aN (newP t.ax p 0) 32):=Bx.mk (by rw[←HN.out,←hp];rfl);rw[hp] at dV HY;clear hp HN Nu;go_wp2
    try generalize decide ((k:Int)<32)=dk
    go_loopw [5,6] (fun nv mv wr=>∃m N:Nat,nv= .int .i64 N∧mv= .int .i64 m∧Bx (N=aN (newP t.ax p m) 32)∧Bx (∀j,m=j+1→j≤cnt (layer t.ax p j) 32)∧St w wr [ah w.heap.size 26 #[.int .i64 t.start,.slice G gn gc,.slice G' n' c'],aA (.slice (some ⟨g,0,none⟩) 32 oc) ((List.range 32).map (CS t.ax p m))]) (fun _ mv _=>40-(intOf mv).toNat)
    case atStart=>exact⟨0,N0,rfl,rfl,HNP,Bx.mk fun j hj=>by omega,dV.out⟩
    case round=>
     clear HNP dV;obtain⟨m,N,rfl,rfl,HN,HC,M⟩:=hrel;have aff:=least_le HC.out;have HM:=af M;clear M;have Wq:N<4294967296:=by rw[HN.out];exact cZ _
     by_cases h0:N=0
     ·have HE:=Bx.mk (Nr gU.out (by rw[←HN.out];exact h0):(List.range 32).map (CS t.ax p m)=eP t.ax p);subst h0;go_wp2;go_ret;exact⟨_,rfl,by rw[HY.out,←HE.out];exact HM.out.pick [1] (by decide) rfl rfl⟩
     ·have hz:(0:Int)<(N:Int):=by omega
      have HC2:=Bx.mk (Ns (by rw[←HN.out];exact h0) HC.out);have gY:Hid (St w wr [ah w.heap.size 26 #[.int .i64 t.start,.slice G gn gc,.slice G' n' c'],aA (.slice (some ⟨g,0,none⟩) 32 oc) (pW (fK t.ax p m) (CS t.ax p m) 0)]):=af (by rw[vC];exact HM.out);clear h0 HM;go_wp2;clear hz
      try generalize decide ((0:Int)<(N:Int))=dn
      try generalize decide (0<N)=dn2
      try generalize Value.bool (decide _)=dn3
      go_loopw [7] (fun i wr=>∃k:Nat,k≤32∧i= .int .i64 k∧St w wr [ah w.heap.size 26 #[.int .i64 t.start,.slice G gn gc,.slice G' n' c'],aA (.slice (some ⟨g,0,none⟩) 32 oc) (pW (fK t.ax p m) (CS t.ax p m) k)]) (fun i _=>32-(intOf i).toNat)
      case atStart=>exact⟨0,by omega,rfl,gY.out⟩
      case round=>
       clear gY;obtain⟨k,hk,rfl,M⟩:=hrel;have HM:=af M;clear M
       by_cases hlt:k<32
       ·go_wp2_with fail
        refine(jO N k (by omega) _).mono ?_;rintro e w5 ⟨rfl,rfl⟩
        by_cases hb1:bit N k=1
        ·obtain⟨hc,hf⟩:=HM.out.qj 1 rfl (nO _ _ _) k _ (zl _ _ k hlt);have HE:=Bx.mk (Wp hlt HN.out hb1);have HST:=af (HM.out.Ih 1 rfl (nO _ _ _) k (m:Int) (dU (by omega)));obtain⟨v0,hv0⟩:∃v0,CS t.ax p m k=v0:=⟨_,rfl⟩;rw[hv0] at hc;rw[hb1];clear hb1 hv0;go_wp2
         go_roundw
         case rel=>exact⟨k+1,by omega,by go_num,by rw[←xM _ _ k _ HE.out];exact HST.out⟩
         case measure=>simp[intOf];omega
        ·have hb0:bit N k=0:=by have:=jI N k;omega
         have HE:=Bx.mk (FV (fK t.ax p m) (CS t.ax p m) k (Zd hlt HN.out hb0));rw[hb0];clear hb1 hb0;go_wp2
         go_roundw
         case rel=>exact⟨k+1,by omega,by go_num,by rw[HE.out];exact HM.out⟩
         case measure=>simp[intOf];omega
       ·have BA:Hid (St w wr [ah w.heap.size 26 #[.int .i64 t.start,.slice G gn gc,.slice G' n' c'],aA (.slice (some ⟨g,0,none⟩) 32 oc) ((List.range 32).map (fK t.ax p m))]):=af (by
         have:=HM.out
         rw[show k=32 by omega,CW] at this
         exact this)
        have q3:=BA.out.cells 0 rfl;clear HM;obtain⟨B,hB⟩:∃B,aN (dO t.ax (fD N)) 32=B:=⟨_,rfl⟩;have HB:Bx (B=aN (dO t.ax (newP t.ax p m)) 32):=Bx.mk (by rw[←hB,HN.out];exact Ku gU.out _);have XU:=Bx.mk hB;clear hB
        go_wp2_with fail
        refine(AV _ t N _ (HT.out.up BA.out.below) bC.out Wq).mono ?_;rw[XU.out];rintro e w6 ⟨rfl,hb6⟩;have XW:=af (BA.out.quiet hb6);clear hb6 q3 BA XU;go_wp2
        try generalize decide ((k:Int)<32)=dk2
        go_loopw [9,5] (fun i nv wr=>∃k M:Nat,k≤32∧i= .int .i64 k∧nv= .int .i64 M∧M<2^k∧Bx (M=aN (upto (newP t.ax p (m+1)) k) 32)∧St w wr [ah w.heap.size 26 #[.int .i64 t.start,.slice G gn gc,.slice G' n' c'],aA (.slice (some ⟨g,0,none⟩) 32 oc) ((List.range 32).map (fK t.ax p m))]) (fun i _ _=>32-(intOf i).toNat)
        case atStart=>exact⟨0,0,by omega,rfl,rfl,by omega,Bx.mk (ru _ _).symm,XW.out⟩
        case round=>
         clear XW;obtain⟨k,M,hk,rfl,rfl,hMk,rV,MM⟩:=hrel;have HM:=af MM;have VO:=Bx.mk hMk;clear MM hMk
         by_cases hlt:k<32
         ·have hpw:=lg k (by omega);have hpl:=xO hlt;obtain⟨vk,hvk⟩:∃vk,fK t.ax p m k=vk:=⟨_,rfl⟩;obtain⟨hc,-⟩:=HM.out.qj 1 rfl (by simp) k vk (by simp[hlt,hvk]);have HVK:=Bx.mk hvk;clear hvk
          go_wp2_with fail
          refine(jO B k (by omega) _).mono ?_;rintro e w7 ⟨rfl,rfl⟩
          by_cases hb1:bit B k=1
          ·by_cases hneg:vk<0
           ·obtain⟨M2,hM2⟩:∃M2,M+2^k=M2:=⟨_,rfl⟩;have hadd:(M:Int)+2^k=(M2:Int):=by rw[←hM2];push_cast;rfl
            have gY:Bx (M2=aN (upto (newP t.ax p (m+1)) (k+1)) 32):=Bx.mk (by rw[←hM2,vU _ 32 k hlt (Uf hlt HB.out hb1 (by rw[HVK.out];exact hneg)),←rV.out]);have hlt2:M2<2^(k+1):=by rw[←hM2,Nat.pow_succ];have:=VO.out;omega
            have hl2:M2<4294967296:=by rw[gY.out];exact cZ _
            have HL2:=Bx.mk hlt2;rw[hb1];clear hM2 hlt2 hb1;go_wp2
            go_roundw
            case rel=>exact⟨k+1,M2,by omega,by go_num,by first | rfl | go_num | (congr 1;rw[hadd]),HL2.out,gY,HM.out⟩
            case measure=>simp[intOf];omega
           ·have gY:Bx (M=aN (upto (newP t.ax p (m+1)) (k+1)) 32):=Bx.mk (rV.out.trans (vF _ k (O6 hlt HB.out (.inr (by rw[HVK.out];omega)))).symm);have HL2:Bx (M<2^(k+1)):=Bx.mk (by rw[Nat.pow_succ];have:=VO.out;omega);rw[hb1];clear hb1;go_wp2
            go_roundw
            case rel=>exact⟨k+1,M,by omega,by go_num,rfl,HL2.out,gY,HM.out⟩
            case measure=>simp[intOf];omega
          ·have hb0:bit B k=0:=by have:=jI B k;omega
           have gY:Bx (M=aN (upto (newP t.ax p (m+1)) (k+1)) 32):=Bx.mk (rV.out.trans (vF _ k (O6 hlt HB.out (.inl hb0))).symm);have HL2:Bx (M<2^(k+1)):=Bx.mk (by rw[Nat.pow_succ];have:=VO.out;omega);rw[hb0];clear hb1 hb0;go_wp2
           go_roundw
           case rel=>exact⟨k+1,M,by omega,by go_num,rfl,HL2.out,gY,HM.out⟩
           case measure=>simp[intOf];omega
         ·have gY:Bx (M=aN (newP t.ax p (m+1)) 32):=Bx.mk (by rw[rV.out,show k=32 by omega,wJ]);go_wp2
          go_roundw
          case rel=>exact⟨m+1,M,rfl,by go_num,gY,HC2,HM.out⟩
          case measure=>simp[intOf];omega
end Go.Proofs.YtkmcengmglgdeaaGreatDoor
