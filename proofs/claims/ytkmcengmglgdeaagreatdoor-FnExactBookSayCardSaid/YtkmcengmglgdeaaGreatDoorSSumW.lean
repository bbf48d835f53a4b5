/- A part of the proof: SumW. -/
import Derived.Test.YtkmcengmglgdeaaGreatDoorSClosI
import Derived.Test.YtkmcengmglgdeaaGreatDoorSDoI
import Derived.Test.YtkmcengmglgdeaaGreatDoorSLaid
import Derived.Deep.Cut
namespace Go.Proofs.YtkmcengmglgdeaaGreatDoor
set_option linter.unusedVariables false
set_option linter.unusedSimpArgs false
set_option maxRecDepth 100000
set_option maxHeartbeats 8000000
open Go.ChangeShapes Go.WideShapes Go.ChangeAt Go.RowKit
theorem I9 {t:aB} {f:Nat} (h:gV t=true):jV t f=true↔(∀(k:Nat) (d:aj),t.ax[k]? =some d→jc (d.flip.toNat &&& f)%2=0)∧∀s,s<32→aH t.goal s=true→jc (s &&& f)%2≠jc (t.start.toNat &&& f)%2:=by
 unfold jV
 rw[h];simp only[Bool.true_and,Bool.and_eq_true,List.all_eq_true,List.mem_range,beq_iff_eq,Bool.or_eq_true,Bool.not_eq_true',beq_eq_false_iff_ne,ne_eq]
 constructor
 ·rintro⟨h1,h2⟩;refine⟨fun k d hk=>h1 d (bU hk),fun s hs he=>?_⟩
  rcases h2 s hs with h3 | h3
  ·rw[he] at h3;cases h3
  ·exact h3
 ·rintro⟨h1,h2⟩;refine⟨fun d hd=>?_,fun s hs=>?_⟩
  ·obtain⟨k,hk,rfl⟩:=List.getElem_of_mem hd;exact h1 k _ (bD hk)
  ·cases he:aH t.goal s with
   |false=>left;rfl
   |true=>right;exact h2 s hs he
theorem Vp {t:aB} {f:Nat} (h:gV t=false):jV t f=false:=by unfold jV;rw[h];rfl
theorem Ls {t:aB} {f k:Nat} {d:aj} (ho:gV t=true) (h:t.ax[k]? =some d) (hd:jc (d.flip.toNat &&& f)%2=1):jV t f=false:=by
 cases hs:jV t f with
 |false=>rfl
 |true=>have:=((I9 ho).1 hs).1 k d h;omega
theorem Gv {t:aB} {f s:Nat} (ho:gV t=true) (h:s<32) (he:aH t.goal s=true) (hd:jc (s &&& f)%2=jc (t.start.toNat &&& f)%2):jV t f=false:=by
 cases hs:jV t f with
 |false=>rfl
 |true=>exact absurd hd (((I9 ho).1 hs).2 s h he)
def DX (t:aB) (f k:Nat):Prop:=∀(j:Nat) (d:aj),j<k→t.ax[j]? =some d→jc (d.flip.toNat &&& f)%2=0
theorem Gw {t:aB} {f k:Nat} {d:aj} (h:DX t f k) (hk:t.ax[k]? =some d) (hd:jc (d.flip.toNat &&& f)%2=0):DX t f (k+1):=fun j e hj he=>by
 rcases Nat.lt_or_ge j k with h1 | h1
 ·exact h j e h1 he
 ·obtain rfl:j=k:=by omega
  rw[hk] at he;cases he;exact hd
def Lu (t:aB) (f m:Nat):Prop:=∀s,s<m→aH t.goal s=true→jc (s &&& f)%2≠jc (t.start.toNat &&& f)%2
theorem yA {t:aB} {f m:Nat} (h:Lu t f m) (hm:aH t.goal m=true→jc (m &&& f)%2≠jc (t.start.toNat &&& f)%2):Lu t f (m+1):=fun s hs he=>by
 rcases Nat.lt_or_ge s m with h1 | h1
 ·exact h s h1 he
 ·obtain rfl:s=m:=by omega
  exact hm he
theorem PW {t:aB} {f k:Nat} (ho:gV t=true) (h1:DX t f k) (hk:t.ax.length≤k) (h2:Lu t f 32):jV t f=true:=
 (I9 ho).2 ⟨fun j d hj=>h1 j d (Nat.lt_of_lt_of_le (aW.1 hj).1 hk) hj,h2⟩
theorem DY {d:aj} (h:bJ d=true):0≤d.flip∧d.flip<32:=by
 unfold bJ at h
 simp only[Bool.and_eq_true] at h;exact(aU _).1 h.1.2
theorem DZ {a b:Nat} (h:a<32):a &&& b<32:=Nat.lt_of_le_of_lt Nat.and_le_left h
theorem Gx {a b:Nat} (h:a<32):jc (a &&& b)≤5:=Vq _ (DZ h)
theorem DL (v:Value) (t:aB) (f:Nat) (hf:f<32) (w:World) (h:nI w w.heap.size v t) (hok:aK t=true):
  Calls Tryz.prog 172 #[v,.int .i64 (f:Int)] w fun e w'=>e= .returned (.bool (jV t f))∧Below w.heap.size w w':=by
 have h':=h;obtain⟨G,gn,gc,G',n',c',rfl,hg,hgs,hds,hst⟩:=h;have aQ:=af ((St.refl w).alloc #[.int .i64 t.start,.slice G gn gc,.slice G' n' c'] 26);have HT:=af h';have yM:=af hds;have fF:=af hds.len;have bC:=af hok;have HG:=af hg;have HGN:=af hgs;obtain⟨pK,pV,oq,iq⟩:=aJ t hok;have F7:=af pV;have gU:=af iq;have xK:n'≤6:=by rw[←hds.len];exact oq
 obtain⟨st,hst'⟩:∃x,t.start=x:=⟨_,rfl⟩;rw[hst'] at pK HT aQ ⊢
 obtain⟨s0,rfl⟩:=bI pK.1;have lQ:s0<32:=by omega
 have yN:Hid (t.start.toNat=s0):=af (by rw[hst'];simp);obtain⟨ob,hob⟩:∃b,gV t=b:=⟨_,rfl⟩;have RS:=Bx.mk hob;clear h' hok hds iq oq hg hgs hst pV hst' pK hob;go_enter Tryz.func172,Tryz.ntmps172
 go_wp2_with fail
 refine(dH (f:Int) _).mono ?_;rw[(aU (f:Int)).2 (by omega)];rintro e w1 ⟨rfl,rfl⟩;have q0:=aQ.out.cells 0 rfl
 go_wp2_with fail
 refine(D5 _ t _ (HT.out.up aQ.out.below) bC.out).mono ?_;rw[RS.out];rintro e w2 ⟨rfl,hb2⟩;have HS2:=af (aQ.out.quiet hb2);clear hb2 aQ q0;have q2:=HS2.out.cells 0 rfl
 cases ob with
 |false=>
  have HF:=Bx.mk (Vp (f:=f) RS.out);go_wp2;go_ret;exact⟨by rw[HF.out];rfl,HS2.out.below⟩
 |true=>
  go_wp2
  go_loopw [21] (fun i wr=>∃k:Nat,k≤n'∧i= .int .i64 (k:Int)∧Hid (DX t f k)∧St w wr [ah w.heap.size 26 #[.int .i64 (s0:Int),.slice G gn gc,.slice G' n' c']]) (fun i _=>n'-(intOf i).toNat)
  case atStart=>exact⟨0,by omega,rfl,af (fun j d h=>by omega),HS2.out⟩
  case round=>
   clear HS2 q2;obtain⟨k,hk,rfl,HM,S⟩:=hrel;have HS:=af S;clear S;have qr:=HS.out.cells 0 rfl
   by_cases hlt:k<n'
   ·obtain⟨db,off,d,rfl,hdb,hd,hda⟩:=yM.out.get hlt;obtain⟨An,nn,cn,p0,p1,p2,p3,bW,hnn,-⟩:=hda;have r0:wr.cell? ⟨db,off+k*4,none⟩=some (.slice An nn cn):=(aC HS.out.below db _ hdb).trans p0;have r1:wr.cell? ⟨db,off+k*4+1,none⟩=some (.int .i64 d.on):=(aC HS.out.below db _ hdb).trans p1;have r2:wr.cell? ⟨db,off+k*4+2,none⟩=some (.int .i64 d.off):=(aC HS.out.below db _ hdb).trans p2;have r3:wr.cell? ⟨db,off+k*4+3,none⟩=some (.int .i64 d.flip):=(aC HS.out.below db _ hdb).trans p3;have HDK:=af hd;have hfl:=(DY (gU.out d (bU hd)));obtain⟨z,hz⟩:∃x,d.flip=x:=⟨_,rfl⟩;have HZ:=Bx.mk hz;rw[hz] at r3 hfl;obtain⟨fl,rfl⟩:=bI hfl.1;have LC:fl<32:=by omega
    have HFL:Hid (d.flip.toNat=fl):=af (by rw[hz];simp);clear p0 p1 p2 p3 bW hnn hd hz hfl;have Xr:=DZ (b:=f) LC;have hp5:=Gx (b:=f) LC;have hand:=jE fl f (by omega) (by omega);have Xt:=af (show jc (d.flip.toNat &&& f)=jc (fl &&& f) by rw[HFL.out]);obtain⟨a,ha⟩:∃a,fl &&& f=a:=⟨_,rfl⟩;rw[ha] at Xr hp5 hand Xt;obtain⟨pa,hpa⟩:∃p,jc a=p:=⟨_,rfl⟩;have YC:=Bx.mk hpa;rw[hpa] at hp5 Xt;obtain⟨r,hr⟩:∃r,pa%2=r:=⟨_,rfl⟩;have HRR:=Bx.mk hr;have hr2:r<2:=by omega
    have m1:(pa:Int).tmod 2=(r:Int):=by rw[Int.tmod_eq_emod_of_nonneg (by omega)];omega
    have m2:(pa:Int)%2=(r:Int):=by omega
    have L6:=af (HS.out.alloc #[.slice An nn cn,.int .i64 d.on,.int .i64 d.off,.int .i64 (fl:Int)] 144);have Me:=af (L6.out.pick [0] (by decide) rfl rfl);clear hpa hr ha
    go_wp2_with fail
    refine(qC a (by omega) _).mono ?_;rw[YC.out];rintro e w4 ⟨rfl,rfl⟩
    by_cases hr1:r=1
    ·subst hr1;have HF:=Bx.mk (Ls (f:=f) RS.out HDK.out (by rw[Xt.out,HRR.out]));go_wp2;go_ret;exact⟨by rw[HF.out];rfl,Me.out.below⟩
    ·obtain rfl:r=0:=by omega
     have gY:=af (Gw HM.out HDK.out (by rw[Xt.out,HRR.out]));clear hr1;go_wp2
     go_roundw
     case rel=>exact⟨k+1,by omega,by go_num,gY,Me.out⟩
     case measure=>simp[intOf];omega
   ·have hke:t.ax.length≤k:=by rw[fF.out];omega
    have HKE:=Bx.mk hke;clear hke;obtain⟨a0,ha0⟩:∃a,s0 &&& f=a:=⟨_,rfl⟩;have hl0:a0<32:=by rw[←ha0];exact DZ lQ
    obtain⟨p0,hp0⟩:∃p,jc a0=p:=⟨_,rfl⟩;have adO:p0≤5:=by rw[←hp0,←ha0];exact Gx lQ
    have HP0:=Bx.mk hp0;have HA0:=Bx.mk ha0;obtain⟨r0,hr0⟩:∃r,p0%2=r:=⟨_,rfl⟩;have adP:r0<2:=by omega
    have Xu:Hid (jc (t.start.toNat &&& f)%2=r0):=af (by rw[yN.out,ha0,hp0,hr0]);have hand0:=jE s0 f (by omega) (by omega);rw[ha0] at hand0;have m1:(p0:Int).tmod 2=(r0:Int):=by rw[Int.tmod_eq_emod_of_nonneg (by omega)];omega
    have m2:(p0:Int)%2=(r0:Int):=by omega
    clear hp0 ha0 hr0
    go_wp2_with fail
    refine(qC a0 (by omega) _).mono ?_;rw[HP0.out];rintro e w4 ⟨rfl,rfl⟩;obtain⟨N0,hN0⟩:∃N,kU t.goal=N:=⟨_,rfl⟩;have Nu:=Bx.mk (fQ t.goal F7.out);have MB:Hid (∀s,s<32→(bit N0 s == 1)=aH t.goal s):=af fun s hs=>by rw[←hN0];exact jg _ hs
    have Wq:N0<4294967296:=by rw[←hN0];exact cZ _
    rw[hN0] at Nu;clear hN0
    go_wp2_with fail
    refine(mG G gn gc t.goal _ (HG.out.up HS.out.below)).mono ?_;rw[Nu.out];rintro e w5 ⟨rfl,hb5⟩;have fV:=af (HS.out.quiet hb5);clear hb5 HS qr m1 m2 hand0;go_wp2
    go_loopw [42] (fun i wr=>∃m:Nat,m≤32∧i= .int .i64 (m:Int)∧Hid (Lu t f m)∧St w wr [ah w.heap.size 26 #[.int .i64 (s0:Int),.slice G gn gc,.slice G' n' c']]) (fun i _=>32-(intOf i).toNat)
    case atStart=>exact⟨0,by omega,rfl,af (fun s h=>by omega),fV.out⟩
    case round=>
     clear fV;obtain⟨m,hm,rfl,OG,S⟩:=hrel;have HS:=af S;clear S
     by_cases wQ:m<32
     ·obtain⟨gb,hgb⟩:∃b,aH t.goal m=b:=⟨_,rfl⟩;have SY:=Bx.mk hgb;have hlm:=DZ (b:=f) wQ;have hpm:=Gx (b:=f) wQ;obtain⟨a,ha⟩:∃a,m &&& f=a:=⟨_,rfl⟩;rw[ha] at hlm hpm;obtain⟨pa,hpa⟩:∃p,jc a=p:=⟨_,rfl⟩;rw[hpa] at hpm;have YC:=Bx.mk hpa;have HA:=Bx.mk ha;obtain⟨r,hr⟩:∃r,pa%2=r:=⟨_,rfl⟩;have hr2:r<2:=by omega
      have HMR:Hid (jc (m &&& f)%2=r):=af (by rw[ha,hpa,hr]);have hbit:=and_one N0 m (by omega);have hb1:=MB.out m wQ;rw[hgb] at hb1;have hand:=jE m f (by omega) (by omega);rw[ha] at hand;have m1:(pa:Int).tmod 2=(r:Int):=by rw[Int.tmod_eq_emod_of_nonneg (by omega)];omega
      have m2:(pa:Int)%2=(r:Int):=by omega
      clear hgb ha hpa hr
      cases gb with
      |false=>
       have h0:bit N0 m=0:=by have:=jI N0 m;have h2:bit N0 m≠1:=(by simpa using hb1);omega
       rw[h0] at hbit;have gY:=af (yA OG.out (fun e=>by rw[SY.out] at e;cases e));clear hb1 h0;go_wp2
       go_roundw
       case rel=>exact⟨m+1,by omega,by go_num,gY,HS.out⟩
       case measure=>simp[intOf];omega
      |true=>
       have h1:bit N0 m=1:=by simpa using hb1
       rw[h1] at hbit;clear hb1 h1
       go_wp2_with fail
       refine(qC a (by omega) _).mono ?_;rw[YC.out];rintro e w6 ⟨rfl,rfl⟩
       by_cases hrr:r=r0
       ·subst hrr;have HF:=Bx.mk (Gv (f:=f) RS.out wQ SY.out (by rw[HMR.out,Xu.out]));go_wp2;go_ret;exact⟨by rw[HF.out];rfl,HS.out.below⟩
       ·have gY:=af (yA OG.out (fun _=>by rw[HMR.out,Xu.out];exact hrr));have hne:((r:Int) == (r0:Int))=false:=beq_false_of_ne (by omega);clear hrr;go_wp2
        go_roundw
        case rel=>exact⟨m+1,by omega,by go_num,gY,HS.out⟩
        case measure=>simp[intOf];omega
     ·obtain rfl:m=32:=by omega
      have HF:=Bx.mk (PW RS.out HM.out HKE.out OG.out);go_wp2;go_ret;exact⟨by rw[HF.out];rfl,HS.out.below⟩
theorem D7 (v:Value) (t:aB) (f:Nat) (hf:f<32) (w:World) (h:nI w w.heap.size v t) (hok:aK t=true):
  Calls Tryz.prog 131 #[v,.int .i64 (f:Int)] w fun e w'=>e= .returned (.bool (jV t f))∧Below w.heap.size w w':=by
 have h':=h;obtain⟨G,gn,gc,G',n',c',rfl,hg,hgs,hds,hst⟩:=h;have aQ:=af ((St.refl w).alloc #[.int .i64 t.start,.slice G gn gc,.slice G' n' c'] 26);have HT:=af h';have yM:=af hds;have fF:=af hds.len;have bC:=af hok;have HG:=af hg;have HGN:=af hgs;obtain⟨pK,pV,oq,iq⟩:=aJ t hok;have F7:=af pV;have gU:=af iq;have xK:n'≤6:=by rw[←hds.len];exact oq
 obtain⟨st,hst'⟩:∃x,t.start=x:=⟨_,rfl⟩;rw[hst'] at pK HT aQ ⊢
 obtain⟨s0,rfl⟩:=bI pK.1;have lQ:s0<32:=by omega
 have yN:Hid (t.start.toNat=s0):=af (by rw[hst'];simp);obtain⟨ob,hob⟩:∃b,gV t=b:=⟨_,rfl⟩;have RS:=Bx.mk hob;clear h' hok hds iq oq hg hgs hst pV hst' pK hob;go_enter Tryz.func131,Tryz.ntmps131
 go_wp2_with fail
 refine(uT _ t _ (HT.out.up aQ.out.below) bC.out).mono ?_;rw[RS.out];rintro e w2 ⟨rfl,hb2⟩;have HS2:=af (aQ.out.quiet hb2);clear hb2 aQ;have q2:=HS2.out.cells 0 rfl
 cases ob with
 |false=>
  have HF:=Bx.mk (Vp (f:=f) RS.out);go_wp2;go_ret;exact⟨by rw[HF.out];rfl,HS2.out.below⟩
 |true=>
  go_wp2_with fail
  refine(fB (f:Int) 0 31 _ (by omega) (by omega)).mono ?_;rintro e w3 ⟨rfl,rfl⟩;go_wp2
  go_loopw [5] (fun i wr=>∃k:Nat,k≤n'∧i= .int .i64 (k:Int)∧Hid (DX t f k)∧St w wr [ah w.heap.size 26 #[.int .i64 (s0:Int),.slice G gn gc,.slice G' n' c']]) (fun i _=>n'-(intOf i).toNat)
  case atStart=>exact⟨0,by omega,rfl,af (fun j d h=>by omega),HS2.out⟩
  case round=>
   clear HS2 q2;obtain⟨k,hk,rfl,HM,S⟩:=hrel;have HS:=af S;clear S;have qr:=HS.out.cells 0 rfl
   by_cases hlt:k<n'
   ·obtain⟨db,off,d,rfl,hdb,hd,hda⟩:=yM.out.get hlt;obtain⟨An,nn,cn,p0,p1,p2,p3,bW,hnn,-⟩:=hda;have r0:wr.cell? ⟨db,off+k*4,none⟩=some (.slice An nn cn):=(aC HS.out.below db _ hdb).trans p0;have r1:wr.cell? ⟨db,off+k*4+1,none⟩=some (.int .i64 d.on):=(aC HS.out.below db _ hdb).trans p1;have r2:wr.cell? ⟨db,off+k*4+2,none⟩=some (.int .i64 d.off):=(aC HS.out.below db _ hdb).trans p2;have r3:wr.cell? ⟨db,off+k*4+3,none⟩=some (.int .i64 d.flip):=(aC HS.out.below db _ hdb).trans p3;have HDK:=af hd;have hfl:=(DY (gU.out d (bU hd)));obtain⟨z,hz⟩:∃x,d.flip=x:=⟨_,rfl⟩;have HZ:=Bx.mk hz;rw[hz] at r3 hfl;obtain⟨fl,rfl⟩:=bI hfl.1;have LC:fl<32:=by omega
    have HFL:Hid (d.flip.toNat=fl):=af (by rw[hz];simp);clear p0 p1 p2 p3 bW hnn hd hz hfl;have Xr:=DZ (b:=f) LC;have hp5:=Gx (b:=f) LC;have hand:=jE fl f (by omega) (by omega);have Xt:=af (show jc (d.flip.toNat &&& f)=jc (fl &&& f) by rw[HFL.out]);obtain⟨a,ha⟩:∃a,fl &&& f=a:=⟨_,rfl⟩;rw[ha] at Xr hp5 hand Xt;obtain⟨pa,hpa⟩:∃p,jc a=p:=⟨_,rfl⟩;have YC:=Bx.mk hpa;rw[hpa] at hp5 Xt;obtain⟨r,hr⟩:∃r,pa%2=r:=⟨_,rfl⟩;have HRR:=Bx.mk hr;have hr2:r<2:=by omega
    have m1:(pa:Int).tmod 2=(r:Int):=by rw[Int.tmod_eq_emod_of_nonneg (by omega)];omega
    have m2:(pa:Int)%2=(r:Int):=by omega
    have HA:=Bx.mk ha;have Me:=HS;clear hpa hr ha
    go_wp2_with fail
    refine(jK fl f (by omega) _).mono ?_;rw[HA.out];rintro e w4 ⟨rfl,rfl⟩
    go_wp2_with fail
    refine(pO a Xr _).mono ?_;rw[YC.out];rintro e w5 ⟨rfl,rfl⟩
    by_cases hr1:r=1
    ·subst hr1;have HF:=Bx.mk (Ls (f:=f) RS.out HDK.out (by rw[Xt.out,HRR.out]));go_wp2;go_ret;exact⟨by rw[HF.out];rfl,Me.out.below⟩
    ·obtain rfl:r=0:=by omega
     have gY:=af (Gw HM.out HDK.out (by rw[Xt.out,HRR.out]));clear hr1;go_wp2
     go_roundw
     case rel=>exact⟨k+1,by omega,by go_num,gY,Me.out⟩
     case measure=>simp[intOf];omega
   ·have hke:t.ax.length≤k:=by rw[fF.out];omega
    have HKE:=Bx.mk hke;clear hke;obtain⟨a0,ha0⟩:∃a,s0 &&& f=a:=⟨_,rfl⟩;have hl0:a0<32:=by rw[←ha0];exact DZ lQ
    obtain⟨p0,hp0⟩:∃p,jc a0=p:=⟨_,rfl⟩;have adO:p0≤5:=by rw[←hp0,←ha0];exact Gx lQ
    have HP0:=Bx.mk hp0;have HA0:=Bx.mk ha0;obtain⟨r0,hr0⟩:∃r,p0%2=r:=⟨_,rfl⟩;have adP:r0<2:=by omega
    have Xu:Hid (jc (t.start.toNat &&& f)%2=r0):=af (by rw[yN.out,ha0,hp0,hr0]);clear hp0 ha0;have fV:=HS;go_wp2
    go_loopw [6] (fun i wr=>∃m:Nat,m≤32∧i= .int .i64 (m:Int)∧Hid (Lu t f m)∧St w wr [ah w.heap.size 26 #[.int .i64 (s0:Int),.slice G gn gc,.slice G' n' c']]) (fun i _=>32-(intOf i).toNat)
    case atStart=>exact⟨0,by omega,rfl,af (fun s h=>by omega),fV.out⟩
    case round=>
     clear fV HS qr;obtain⟨m,hm,rfl,OG,S⟩:=hrel;have HS:=af S;clear S
     by_cases wQ:m<32
     ·obtain⟨gb,hgb⟩:∃b,aH t.goal m=b:=⟨_,rfl⟩;have SY:=Bx.mk hgb;have hlm:=DZ (b:=f) wQ;have hpm:=Gx (b:=f) wQ;obtain⟨a,ha⟩:∃a,m &&& f=a:=⟨_,rfl⟩;rw[ha] at hlm hpm;obtain⟨pa,hpa⟩:∃p,jc a=p:=⟨_,rfl⟩;rw[hpa] at hpm;have YC:=Bx.mk hpa;have HA:=Bx.mk ha;obtain⟨r,hr⟩:∃r,pa%2=r:=⟨_,rfl⟩;have hr2:r<2:=by omega
      have HMR:Hid (jc (m &&& f)%2=r):=af (by rw[ha,hpa,hr]);have C0:=af (HS.out.cells 0 rfl 0);have C1:=af (HS.out.cells 0 rfl 1);have YD:Hid (w.heap.size<wr.heap.size):=af (HS.out.new 0 rfl).2;clear hgb ha hpa
      cases gb with
      |false=>
       have gY:=af (yA OG.out (fun e=>by rw[SY.out] at e;cases e));clear hr
       go_upto_region 11 with(fail)
       refine kS (σ:=Unit)
        (fun _ i=>match i with
        |0=>.pointer (some ⟨w.heap.size,1,none⟩)
        |1=>.slice G gn gc
        |2=>.int .i64 (m:Int)
        |3=>.bool false
        |4=>.bool false
        |17=>.bool false
        |_=>undef)
        (fun D _ wx=>Below wr.heap.size wr wx) () (fun D hD=>(ai _ _).drew) ?_ ?_
       ·refine Cs (fun D _ wx hR _ hd _ _ hs K hK=>?_) ?_
        ·have e2:=hs.o 2 (.pointer (some ⟨w.heap.size,0,none⟩));clear hs;go_simp;exact hK () wx sv hR
        refine Cs (fun D _ wx hR _ hd _ _ hs K hK=>?_) ?_
        ·have e37:=hs.v 0 37 hd;clear hs;have c0:wx.cell? ⟨w.heap.size,1,none⟩=some (.slice G gn gc):=(aC hR _ _ YD.out).trans C1.out;go_simp;exact hK () wx sv hR
        refine Cs (fun D _ wx hR _ hd _ _ hs K hK=>?_) ?_
        ·have e6:=hs.o 6 (.int .i64 (m:Int));clear hs;go_simp;exact hK () wx sv hR
        refine Cs (fun D _ wx hR _ hd _ _ hs K hK=>?_) ?_
        ·have e38:=hs.v 1 38 hd;have e39:=hs.v 2 39 hd;have g38:=aZ e38;have g39:=aZ e39;clear hs;go_simp;refine(kE G gn gc t.goal m wx (HG.out.up (HS.out.below.trans (hR.mono HS.out.below.size))) F7.out wQ).mono ?_;rw[SY.out];rintro e2 w2 ⟨rfl,hb2⟩;exact hK () w2 sv (hR.trans (hb2.mono hR.size))
        refine Cs (fun D _ wx hR _ hd _ _ hs K hK=>?_) ?_
        ·have e40:=hs.v 3 40 hd;clear hs;go_simp;exact hK () wx sv hR
        refine au.skip 4 41 false ?_;refine au.skip 4 41 false ?_;refine au.skip 4 41 false ?_;refine au.skip 4 41 false ?_;refine au.skip 4 41 false ?_;refine au.skip 4 41 false ?_;refine au.skip 4 41 false ?_;refine au.skip 4 41 false ?_;refine au.skip 4 41 false ?_;refine au.skip 4 41 false ?_;refine au.skip 4 41 false ?_;refine au.skip 4 41 false ?_;refine Cs (fun D _ wx hR _ hd _ _ hs K hK=>?_) ?_
        ·have e41:=hs.v 4 41 hd;have e53:=hs.v 16 53 hd;clear hs;go_simp;exact hK () wx sv hR
        exact au.nil
       intro D _ wx hR hD;simp only[eG,Act.put,aO,aS,aV];have Xv:=af (HS.out.quiet hR);clear hR hD HS C0 C1 YD;go_wp2
       go_roundw
       case rel=>exact⟨m+1,by omega,by go_num,gY,Xv.out⟩
       case measure=>simp[intOf];omega
      |true=>
       obtain⟨ss,hss⟩:∃x,pa+p0=x:=⟨_,rfl⟩;obtain⟨rs,hrs⟩:∃x,ss%2=x:=⟨_,rfl⟩;have YA:=Bx.mk (show(pa:Int)+(p0:Int)=(ss:Int) by omega);have HSW:=Bx.mk (show IntKind.i64.wrap (ss:Int)=(ss:Int) by rw[IntKind.wrap_i64]<;>omega);have Zj:=Bx.mk (show(ss:Int)%2=(rs:Int) by omega);have HRT:=Bx.mk (show(ss:Int).tmod 2=(rs:Int) by rw[Int.tmod_eq_emod_of_nonneg (by omega)];omega)
       by_cases hrr:r=r0
       ·have HF:=Bx.mk (Gv (f:=f) RS.out wQ SY.out (by rw[HMR.out,Xu.out];exact hrr));have HEB:=Bx.mk (show((rs:Int) == 0)=true by rw[beq_iff_eq];omega);clear hrr hrs hss hr hr0
        go_upto_region 11 with(fail)
        refine kS (σ:=Unit)
         (fun _ i=>match i with
         |0=>.pointer (some ⟨w.heap.size,1,none⟩)
         |1=>.slice G gn gc
         |2=>.int .i64 (m:Int)
         |3=>.bool true
         |4=>.bool true
         |5=>.int .i64 (m:Int)
         |6=>.int .i64 (f:Int)
         |7=>.int .i64 (a:Int)
         |8=>.int .i64 (pa:Int)
         |9=>.pointer (some ⟨w.heap.size,0,none⟩)
         |10=>.int .i64 (s0:Int)
         |11=>.int .i64 (f:Int)
         |12=>.int .i64 (a0:Int)
         |13=>.int .i64 (p0:Int)
         |14=>.int .i64 (ss:Int)
         |15=>.int .i64 (rs:Int)
         |16=>.bool true
         |17=>.bool true
         |_=>undef)
         (fun D _ wx=>Below wr.heap.size wr wx) () (fun D hD=>(ai _ _).drew) ?_ ?_
        ·refine Cs (fun D _ wx hR _ hd _ _ hs K hK=>?_) ?_
         ·have e2:=hs.o 2 (.pointer (some ⟨w.heap.size,0,none⟩));clear hs;go_simp;exact hK () wx sv hR
         refine Cs (fun D _ wx hR _ hd _ _ hs K hK=>?_) ?_
         ·have e37:=hs.v 0 37 hd;clear hs;have c0:wx.cell? ⟨w.heap.size,1,none⟩=some (.slice G gn gc):=(aC hR _ _ YD.out).trans C1.out;go_simp;exact hK () wx sv hR
         refine Cs (fun D _ wx hR _ hd _ _ hs K hK=>?_) ?_
         ·have e6:=hs.o 6 (.int .i64 (m:Int));clear hs;go_simp;exact hK () wx sv hR
         refine Cs (fun D _ wx hR _ hd _ _ hs K hK=>?_) ?_
         ·have e38:=hs.v 1 38 hd;have e39:=hs.v 2 39 hd;have g38:=aZ e38;have g39:=aZ e39;clear hs;go_simp;refine(kE G gn gc t.goal m wx (HG.out.up (HS.out.below.trans (hR.mono HS.out.below.size))) F7.out wQ).mono ?_;rw[SY.out];rintro e2 w2 ⟨rfl,hb2⟩;exact hK () w2 sv (hR.trans (hb2.mono hR.size))
         refine Cs (fun D _ wx hR _ hd _ _ hs K hK=>?_) ?_
         ·have e40:=hs.v 3 40 hd;clear hs;go_simp;exact hK () wx sv hR
         refine dw (fun D _ wx hR _ hd _ _ hs K hK=>?_) ?_
         ·refine hs.yes 4 41 true hd ?_;have e6:=hs.o 6 (.int .i64 (m:Int));clear hs;go_simp;exact hK () wx sv hR
         refine dw (fun D _ wx hR _ hd _ _ hs K hK=>?_) ?_
         ·refine hs.yes 4 41 true hd ?_;have e1:=hs.o 1 (.int .i64 (f:Int));clear hs;go_simp;exact hK () wx sv hR
         refine dw (fun D _ wx hR _ hd _ _ hs K hK=>?_) ?_
         ·refine hs.yes 4 41 true hd ?_;have e42:=hs.v 5 42 hd;have e43:=hs.v 6 43 hd;have g42:=aZ e42;have g43:=aZ e43;clear hs;go_simp;refine(jK m f (by omega) wx).mono ?_;rw[HA.out];rintro e2 w2 ⟨rfl,rfl⟩;exact hK () wx sv hR
         refine dw (fun D _ wx hR _ hd _ _ hs K hK=>?_) ?_
         ·refine hs.yes 4 41 true hd ?_;have e44:=hs.v 7 44 hd;have g44:=aZ e44;clear hs;go_simp;refine(pO a hlm wx).mono ?_;rw[YC.out];rintro e2 w2 ⟨rfl,rfl⟩;exact hK () wx sv hR
         refine dw (fun D _ wx hR _ hd _ _ hs K hK=>?_) ?_
         ·refine hs.yes 4 41 true hd ?_;have e2:=hs.o 2 (.pointer (some ⟨w.heap.size,0,none⟩));clear hs;go_simp;exact hK () wx sv hR
         refine dw (fun D _ wx hR _ hd _ _ hs K hK=>?_) ?_
         ·refine hs.yes 4 41 true hd ?_;have e46:=hs.v 9 46 hd;clear hs;have c0:wx.cell? ⟨w.heap.size,0,none⟩=some (.int .i64 (s0:Int)):=(aC hR _ _ YD.out).trans C0.out;go_simp;exact hK () wx sv hR
         refine dw (fun D _ wx hR _ hd _ _ hs K hK=>?_) ?_
         ·refine hs.yes 4 41 true hd ?_;have e1:=hs.o 1 (.int .i64 (f:Int));clear hs;go_simp;exact hK () wx sv hR
         refine dw (fun D _ wx hR _ hd _ _ hs K hK=>?_) ?_
         ·refine hs.yes 4 41 true hd ?_;have e47:=hs.v 10 47 hd;have e48:=hs.v 11 48 hd;have g47:=aZ e47;have g48:=aZ e48;clear hs;go_simp;refine(jK s0 f (by omega) wx).mono ?_;rw[HA0.out];rintro e2 w2 ⟨rfl,rfl⟩;exact hK () wx sv hR
         refine dw (fun D _ wx hR _ hd _ _ hs K hK=>?_) ?_
         ·refine hs.yes 4 41 true hd ?_;have e49:=hs.v 12 49 hd;have g49:=aZ e49;clear hs;go_simp;refine(pO a0 hl0 wx).mono ?_;rw[HP0.out];rintro e2 w2 ⟨rfl,rfl⟩;exact hK () wx sv hR
         refine dw (fun D _ wx hR _ hd _ _ hs K hK=>?_) ?_
         ·refine hs.yes 4 41 true hd ?_;have e45:=hs.v 8 45 hd;have e50:=hs.v 13 50 hd;clear hs;have q1:=YA.out;have q2:=HSW.out;go_simp;exact hK () wx sv hR
         refine dw (fun D _ wx hR _ hd _ _ hs K hK=>?_) ?_
         ·refine hs.yes 4 41 true hd ?_;have e51:=hs.v 14 51 hd;clear hs;have q1:=Zj.out;have q2:=HRT.out;go_simp;exact hK () wx sv hR
         refine dw (fun D _ wx hR _ hd _ _ hs K hK=>?_) ?_
         ·refine hs.yes 4 41 true hd ?_;have e52:=hs.v 15 52 hd;clear hs;have q1:=HEB.out;go_simp;exact hK () wx sv hR
         refine Cs (fun D _ wx hR _ hd _ _ hs K hK=>?_) ?_
         ·have e41:=hs.v 4 41 hd;have e53:=hs.v 16 53 hd;clear hs;go_simp;exact hK () wx sv hR
         exact au.nil
        intro D _ wx hR hD;simp only[eG,Act.put,aO,aS,aV];have Xv:=af (HS.out.quiet hR);clear hR hD HS C0 C1 YD;go_wp2;go_ret;exact⟨by rw[HF.out];rfl,Xv.out.below⟩
       ·have gY:=af (yA OG.out (fun _=>by rw[HMR.out,Xu.out];exact hrr));have HEB:=Bx.mk (show((rs:Int) == 0)=false from beq_false_of_ne (by omega));clear hrr hrs hss hr
        go_upto_region 11 with(fail)
        refine kS (σ:=Unit)
         (fun _ i=>match i with
         |0=>.pointer (some ⟨w.heap.size,1,none⟩)
         |1=>.slice G gn gc
         |2=>.int .i64 (m:Int)
         |3=>.bool true
         |4=>.bool true
         |5=>.int .i64 (m:Int)
         |6=>.int .i64 (f:Int)
         |7=>.int .i64 (a:Int)
         |8=>.int .i64 (pa:Int)
         |9=>.pointer (some ⟨w.heap.size,0,none⟩)
         |10=>.int .i64 (s0:Int)
         |11=>.int .i64 (f:Int)
         |12=>.int .i64 (a0:Int)
         |13=>.int .i64 (p0:Int)
         |14=>.int .i64 (ss:Int)
         |15=>.int .i64 (rs:Int)
         |16=>.bool false
         |17=>.bool false
         |_=>undef)
         (fun D _ wx=>Below wr.heap.size wr wx) () (fun D hD=>(ai _ _).drew) ?_ ?_
        ·refine Cs (fun D _ wx hR _ hd _ _ hs K hK=>?_) ?_
         ·have e2:=hs.o 2 (.pointer (some ⟨w.heap.size,0,none⟩));clear hs;go_simp;exact hK () wx sv hR
         refine Cs (fun D _ wx hR _ hd _ _ hs K hK=>?_) ?_
         ·have e37:=hs.v 0 37 hd;clear hs;have c0:wx.cell? ⟨w.heap.size,1,none⟩=some (.slice G gn gc):=(aC hR _ _ YD.out).trans C1.out;go_simp;exact hK () wx sv hR
         refine Cs (fun D _ wx hR _ hd _ _ hs K hK=>?_) ?_
         ·have e6:=hs.o 6 (.int .i64 (m:Int));clear hs;go_simp;exact hK () wx sv hR
         refine Cs (fun D _ wx hR _ hd _ _ hs K hK=>?_) ?_
         ·have e38:=hs.v 1 38 hd;have e39:=hs.v 2 39 hd;have g38:=aZ e38;have g39:=aZ e39;clear hs;go_simp;refine(kE G gn gc t.goal m wx (HG.out.up (HS.out.below.trans (hR.mono HS.out.below.size))) F7.out wQ).mono ?_;rw[SY.out];rintro e2 w2 ⟨rfl,hb2⟩;exact hK () w2 sv (hR.trans (hb2.mono hR.size))
         refine Cs (fun D _ wx hR _ hd _ _ hs K hK=>?_) ?_
         ·have e40:=hs.v 3 40 hd;clear hs;go_simp;exact hK () wx sv hR
         refine dw (fun D _ wx hR _ hd _ _ hs K hK=>?_) ?_
         ·refine hs.yes 4 41 true hd ?_;have e6:=hs.o 6 (.int .i64 (m:Int));clear hs;go_simp;exact hK () wx sv hR
         refine dw (fun D _ wx hR _ hd _ _ hs K hK=>?_) ?_
         ·refine hs.yes 4 41 true hd ?_;have e1:=hs.o 1 (.int .i64 (f:Int));clear hs;go_simp;exact hK () wx sv hR
         refine dw (fun D _ wx hR _ hd _ _ hs K hK=>?_) ?_
         ·refine hs.yes 4 41 true hd ?_;have e42:=hs.v 5 42 hd;have e43:=hs.v 6 43 hd;have g42:=aZ e42;have g43:=aZ e43;clear hs;go_simp;refine(jK m f (by omega) wx).mono ?_;rw[HA.out];rintro e2 w2 ⟨rfl,rfl⟩;exact hK () wx sv hR
         refine dw (fun D _ wx hR _ hd _ _ hs K hK=>?_) ?_
         ·refine hs.yes 4 41 true hd ?_;have e44:=hs.v 7 44 hd;have g44:=aZ e44;clear hs;go_simp;refine(pO a hlm wx).mono ?_;rw[YC.out];rintro e2 w2 ⟨rfl,rfl⟩;exact hK () wx sv hR
         refine dw (fun D _ wx hR _ hd _ _ hs K hK=>?_) ?_
         ·refine hs.yes 4 41 true hd ?_;have e2:=hs.o 2 (.pointer (some ⟨w.heap.size,0,none⟩));clear hs;go_simp;exact hK () wx sv hR
         refine dw (fun D _ wx hR _ hd _ _ hs K hK=>?_) ?_
         ·refine hs.yes 4 41 true hd ?_;have e46:=hs.v 9 46 hd;clear hs;have c0:wx.cell? ⟨w.heap.size,0,none⟩=some (.int .i64 (s0:Int)):=(aC hR _ _ YD.out).trans C0.out;go_simp;exact hK () wx sv hR
         refine dw (fun D _ wx hR _ hd _ _ hs K hK=>?_) ?_
         ·refine hs.yes 4 41 true hd ?_;have e1:=hs.o 1 (.int .i64 (f:Int));clear hs;go_simp;exact hK () wx sv hR
         refine dw (fun D _ wx hR _ hd _ _ hs K hK=>?_) ?_
         ·refine hs.yes 4 41 true hd ?_;have e47:=hs.v 10 47 hd;have e48:=hs.v 11 48 hd;have g47:=aZ e47;have g48:=aZ e48;clear hs;go_simp;refine(jK s0 f (by omega) wx).mono ?_;rw[HA0.out];rintro e2 w2 ⟨rfl,rfl⟩;exact hK () wx sv hR
         refine dw (fun D _ wx hR _ hd _ _ hs K hK=>?_) ?_
         ·refine hs.yes 4 41 true hd ?_;have e49:=hs.v 12 49 hd;have g49:=aZ e49;clear hs;go_simp;refine(pO a0 hl0 wx).mono ?_;rw[HP0.out];rintro e2 w2 ⟨rfl,rfl⟩;exact hK () wx sv hR
         refine dw (fun D _ wx hR _ hd _ _ hs K hK=>?_) ?_
         ·refine hs.yes 4 41 true hd ?_;have e45:=hs.v 8 45 hd;have e50:=hs.v 13 50 hd;clear hs;have q1:=YA.out;have q2:=HSW.out;go_simp;exact hK () wx sv hR
         refine dw (fun D _ wx hR _ hd _ _ hs K hK=>?_) ?_
         ·refine hs.yes 4 41 true hd ?_;have e51:=hs.v 14 51 hd;clear hs;have q1:=Zj.out;have q2:=HRT.out;go_simp;exact hK () wx sv hR
         refine dw (fun D _ wx hR _ hd _ _ hs K hK=>?_) ?_
         ·refine hs.yes 4 41 true hd ?_;have e52:=hs.v 15 52 hd;clear hs;have q1:=HEB.out;go_simp;exact hK () wx sv hR
         refine Cs (fun D _ wx hR _ hd _ _ hs K hK=>?_) ?_
         ·have e41:=hs.v 4 41 hd;have e53:=hs.v 16 53 hd;clear hs;go_simp;exact hK () wx sv hR
         exact au.nil
        intro D _ wx hR hD;simp only[eG,Act.put,aO,aS,aV];have Xv:=af (HS.out.quiet hR);clear hR hD HS C0 C1 YD;go_wp2
        go_roundw
        case rel=>exact⟨m+1,by omega,by go_num,gY,Xv.out⟩
        case measure=>simp[intOf];omega
     ·obtain rfl:m=32:=by omega
      have HF:=Bx.mk (PW RS.out HM.out HKE.out OG.out);go_wp2;go_ret;exact⟨by rw[HF.out];rfl,HS.out.below⟩
theorem LD (v:Value) (t:aB) (w:World) (h:nI w w.heap.size v t) (hok:aK t=true):
  Calls Tryz.prog 166 #[v] w fun e w'=>e= .returned (.tuple #[.int .i64 (opt (kW t)),.bool (kW t).isSome])∧Below w.heap.size w w':=by
 have h':=h;obtain⟨G,gn,gc,G',n',c',rfl,hg,hgs,hds,hst⟩:=h;have aQ:=af ((St.refl w).alloc #[.int .i64 t.start,.slice G gn gc,.slice G' n' c'] 26);have HT:=af h';have bC:=af hok;obtain⟨o,ho⟩:∃o,kW t=o:=⟨_,rfl⟩;have HO:=Bx.mk ho;rw[ho];clear h' hok hds hg hgs hst ho;go_enter Tryz.func166,Tryz.ntmps166;go_wp2
 go_loopw [5] (fun i wr=>∃k:Nat,k≤32∧i= .int .i64 (k:Int)∧Hid (∀j,j<k→jV t j=false)∧St w wr [ah w.heap.size 26 #[.int .i64 t.start,.slice G gn gc,.slice G' n' c']]) (fun i _=>32-(intOf i).toNat)
 case atStart=>exact⟨0,by omega,rfl,af (by omega),aQ.out⟩
 case round=>
  clear aQ;obtain⟨k,hk,rfl,HM,S⟩:=hrel;have HS:=af S;clear S
  by_cases hlt:k<32
  ·have q0:=HS.out.cells 0 rfl;obtain⟨b,hb⟩:∃b,jV t k=b:=⟨_,rfl⟩;have HB:=Bx.mk hb;clear hb
   go_wp2_with fail
   refine(DL _ t k hlt _ (HT.out.up HS.out.below) bC.out).mono ?_;rw[HB.out];rintro e w1 ⟨rfl,hb1⟩;have bG:=af (HS.out.quiet hb1);clear hb1
   cases b with
   |true=>
    have HV:Hid (o=some k):=af (by
     rw[←HO.out]
     unfold kW
     rw[List.find?_range_eq_some]
     exact⟨HB.out,by simpa using hlt,fun j hj=>by rw[HM.out j hj];rfl⟩)
    go_wp2;exact bodyPost_ret (v:=.tuple #[.int .i64 (k:Int),.bool true]) (by simp[results,Tryz.results166,go_sem]) rfl ⟨by rw[HV.out];rfl,bG.out.below⟩
   |false=>
    have gY:Hid (∀j,j<k+1→jV t j=false):=af fun j hj=>by
     rcases Nat.lt_or_ge j k with h | h
     ·exact HM.out j h
     ·obtain rfl:j=k:=by omega
      exact HB.out
    go_wp2
    go_roundw
    case rel=>exact⟨k+1,by omega,by go_num,gY,bG.out⟩
    case measure=>simp[intOf];omega
  ·have HV:Hid (o=none):=af (by
    rw[←HO.out]
    unfold kW
    rw[List.find?_eq_none];intro j hj
    rw[HM.out j (by have:=List.mem_range.1 hj;omega)];simp)
   go_wp2;exact bodyPost_ret (v:=.tuple #[.int .i64 (-1),.bool false]) (by simp[results,Tryz.results166,go_sem]) rfl ⟨by rw[HV.out];rfl,HS.out.below⟩
theorem LG (v:Value) (t:aB) (w:World) (h:nI w w.heap.size v t) (hok:aK t=true):
  Calls Tryz.prog 105 #[v] w fun e w'=>e= .returned (.tuple #[.int .i64 (opt (kW t)),.bool (kW t).isSome])∧Below w.heap.size w w':=by
 have h':=h;obtain⟨G,gn,gc,G',n',c',rfl,hg,hgs,hds,hst⟩:=h;have aQ:=af ((St.refl w).alloc #[.int .i64 t.start,.slice G gn gc,.slice G' n' c'] 26);have HT:=af h';have bC:=af hok;obtain⟨o,ho⟩:∃o,kW t=o:=⟨_,rfl⟩;have HO:=Bx.mk ho;rw[ho];clear h' hok hds hg hgs hst ho;go_enter Tryz.func105,Tryz.ntmps105;go_wp2
 go_loopw [4] (fun i wr=>∃k:Nat,k≤32∧i= .int .i64 (k:Int)∧Hid (∀j,j<k→jV t j=false)∧St w wr [ah w.heap.size 26 #[.int .i64 t.start,.slice G gn gc,.slice G' n' c']]) (fun i _=>32-(intOf i).toNat)
 case atStart=>exact⟨0,by omega,rfl,af (by omega),aQ.out⟩
 case round=>
  clear aQ;obtain⟨k,hk,rfl,HM,S⟩:=hrel;have HS:=af S;clear S
  by_cases hlt:k<32
  ·have q0:=HS.out.cells 0 rfl;obtain⟨b,hb⟩:∃b,jV t k=b:=⟨_,rfl⟩;have HB:=Bx.mk hb;clear hb
   go_wp2_with fail
   refine(D7 _ t k hlt _ (HT.out.up HS.out.below) bC.out).mono ?_;rw[HB.out];rintro e w1 ⟨rfl,hb1⟩;have bG:=af (HS.out.quiet hb1);clear hb1
   cases b with
   |true=>
    have HV:Hid (o=some k):=af (by
     rw[←HO.out]
     unfold kW
     rw[List.find?_range_eq_some]
     exact⟨HB.out,by simpa using hlt,fun j hj=>by rw[HM.out j hj];rfl⟩)
    go_wp2;exact bodyPost_ret (v:=.tuple #[.int .i64 (k:Int),.bool true]) (by simp[results,Tryz.results105,go_sem]) rfl ⟨by rw[HV.out];rfl,bG.out.below⟩
   |false=>
    have gY:Hid (∀j,j<k+1→jV t j=false):=af fun j hj=>by
     rcases Nat.lt_or_ge j k with h | h
     ·exact HM.out j h
     ·obtain rfl:j=k:=by omega
      exact HB.out
    go_wp2
    go_roundw
    case rel=>exact⟨k+1,by omega,by go_num,gY,bG.out⟩
    case measure=>simp[intOf];omega
  ·have HV:Hid (o=none):=af (by
    rw[←HO.out]
    unfold kW
    rw[List.find?_eq_none];intro j hj
    rw[HM.out j (by have:=List.mem_range.1 hj;omega)];simp)
   go_wp2;exact bodyPost_ret (v:=.tuple #[.int .i64 (-1),.bool false]) (by simp[results,Tryz.results105,go_sem]) rfl ⟨by rw[HV.out];rfl,HS.out.below⟩
end Go.Proofs.YtkmcengmglgdeaaGreatDoor
