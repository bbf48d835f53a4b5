/- A part of the proof: SumW. -/
import Derived.Test.YtkmcengmglgdeaaGreatDoorSClosI
import Derived.Test.YtkmcengmglgdeaaGreatDoorSDoI
import Derived.Test.YtkmcengmglgdeaaGreatDoorSJourP
import Derived.Deep.Cut
namespace Go.Proofs.YtkmcengmglgdeaaGreatDoor
set_option linter.unusedVariables false
set_option linter.unusedSimpArgs false
set_option maxRecDepth 100000
set_option maxHeartbeats 8000000
open Go.ChangeShapes Go.WideShapes Go.ChangeAt Go.RowKit
theorem JI {t:aB} {f:Nat} (h:iH t=true):kE t f=true↔(∀(k:Nat) (d:au),t.ay[k]? =some d→iY (d.flip.toNat &&& f)%2=0)∧∀s,s<32→aH t.goal s=true→iY (s &&& f)%2≠iY (t.start.toNat &&& f)%2:=by
 unfold kE
 rw[h];simp only[Bool.true_and,Bool.and_eq_true,List.all_eq_true,List.mem_range,beq_iff_eq,Bool.or_eq_true,Bool.not_eq_true',beq_eq_false_iff_ne,ne_eq]
 constructor
 ·rintro⟨h1,h2⟩;refine⟨fun k d hk=>h1 d (bT hk),fun s hs he=>?_⟩
  rcases h2 s hs with h3 | h3
  ·rw[he] at h3;cases h3
  ·exact h3
 ·rintro⟨h1,h2⟩;refine⟨fun d hd=>?_,fun s hs=>?_⟩
  ·obtain⟨k,hk,rfl⟩:=List.getElem_of_mem hd;exact h1 k _ (bH hk)
  ·cases he:aH t.goal s with
   |false=>left;rfl
   |true=>right;exact h2 s hs he
theorem V5 {t:aB} {f:Nat} (h:iH t=false):kE t f=false:=by unfold kE;rw[h];rfl
theorem Nb {t:aB} {f k:Nat} {d:au} (ho:iH t=true) (h:t.ay[k]? =some d) (hd:iY (d.flip.toNat &&& f)%2=1):kE t f=false:=by
 cases hs:kE t f with
 |false=>rfl
 |true=>have:=((JI ho).1 hs).1 k d h;omega
theorem H9 {t:aB} {f s:Nat} (ho:iH t=true) (h:s<32) (he:aH t.goal s=true) (hd:iY (s &&& f)%2=iY (t.start.toNat &&& f)%2):kE t f=false:=by
 cases hs:kE t f with
 |false=>rfl
 |true=>exact absurd hd (((JI ho).1 hs).2 s h he)
def EL (t:aB) (f k:Nat):Prop:=∀(j:Nat) (d:au),j<k→t.ay[j]? =some d→iY (d.flip.toNat &&& f)%2=0
theorem Ia {t:aB} {f k:Nat} {d:au} (h:EL t f k) (hk:t.ay[k]? =some d) (hd:iY (d.flip.toNat &&& f)%2=0):EL t f (k+1):=fun j e hj he=>by
 rcases Nat.lt_or_ge j k with h1 | h1
 ·exact h j e h1 he
 ·obtain rfl:j=k:=by omega
  rw[hk] at he;cases he;exact hd
def Nc (t:aB) (f m:Nat):Prop:=∀s,s<m→aH t.goal s=true→iY (s &&& f)%2≠iY (t.start.toNat &&& f)%2
theorem y9 {t:aB} {f m:Nat} (h:Nc t f m) (hm:aH t.goal m=true→iY (m &&& f)%2≠iY (t.start.toNat &&& f)%2):Nc t f (m+1):=fun s hs he=>by
 rcases Nat.lt_or_ge s m with h1 | h1
 ·exact h s h1 he
 ·obtain rfl:s=m:=by omega
  exact hm he
theorem QM {t:aB} {f k:Nat} (ho:iH t=true) (h1:EL t f k) (hk:t.ay.length≤k) (h2:Nc t f 32):kE t f=true:=
 (JI ho).2 ⟨fun j d hj=>h1 j d (Nat.lt_of_lt_of_le (bI.1 hj).1 hk) hj,h2⟩
theorem EM {d:au} (h:bK d=true):0≤d.flip∧d.flip<32:=by
 unfold bK at h
 simp only[Bool.and_eq_true] at h;exact(aV _).1 h.1.2
theorem EN {a b:Nat} (h:a<32):a &&& b<32:=Nat.lt_of_le_of_lt Nat.and_le_left h
theorem Ib {a b:Nat} (h:a<32):iY (a &&& b)≤5:=V6 _ (EN h)
theorem ED (v:Value) (t:aB) (f:Nat) (hf:f<32) (w:World) (h:oW w w.heap.size v t) (hok:aK t=true):
  Calls Tryz.prog 172 #[v,.int .i64 (f:Int)] w fun e w'=>e= .returned (.bool (kE t f))∧Below w.heap.size w w':=by
 have h':=h;obtain⟨G,gn,gc,G',n',c',rfl,hg,hgs,hds,hst⟩:=h;have aS:=af ((St.refl w).alloc #[.int .i64 t.start,.slice G gn gc,.slice G' n' c'] 26);have HT:=af h';have Bf:=af hds;have gy:=af hds.len;have bG:=af hok;have HG:=af hg;have HGN:=af hgs;obtain⟨qx,qB,pz,iL⟩:=aJ t hok;have G6:=af qB;have gQ:=af iL;have yF:n'≤6:=by rw[←hds.len];exact pz
 obtain⟨st,hst'⟩:∃x,t.start=x:=⟨_,rfl⟩;rw[hst'] at qx HT aS ⊢
 obtain⟨s0,rfl⟩:=bC qx.1;have mG:s0<32:=by omega
 have zB:Hid (t.start.toNat=s0):=af (by rw[hst'];simp);obtain⟨ob,hob⟩:∃b,iH t=b:=⟨_,rfl⟩;have TJ:=Bx.mk hob;clear h' hok hds iL pz hg hgs hst qB hst' qx hob;go_enter Tryz.func172,Tryz.ntmps172
 go_wp2_with fail
 refine(dS (f:Int) _).mono ?_;rw[(aV (f:Int)).2 (by omega)];rintro e w1 ⟨rfl,rfl⟩;have q0:=aS.out.cells 0 rfl
 go_wp2_with fail
 refine(EO _ t _ (HT.out.up aS.out.below) bG.out).mono ?_;rw[TJ.out];rintro e w2 ⟨rfl,hb2⟩;have HS2:=af (aS.out.quiet hb2);clear hb2 aS q0;have q2:=HS2.out.cells 0 rfl
 cases ob with
 |false=>
  have HF:=Bx.mk (V5 (f:=f) TJ.out);go_wp2;go_ret;exact⟨by rw[HF.out];rfl,HS2.out.below⟩
 |true=>
  go_wp2
  go_loopw [21] (fun i wr=>∃k:Nat,k≤n'∧i= .int .i64 (k:Int)∧Hid (EL t f k)∧St w wr [ah w.heap.size 26 #[.int .i64 (s0:Int),.slice G gn gc,.slice G' n' c']]) (fun i _=>n'-(intOf i).toNat)
  case atStart=>exact⟨0,by omega,rfl,af (fun j d h=>by omega),HS2.out⟩
  case round=>
   clear HS2 q2;obtain⟨k,hk,rfl,HM,S⟩:=hrel;have HS:=af S;clear S;have qr:=HS.out.cells 0 rfl
   by_cases hlt:k<n'
   ·obtain⟨db,off,d,rfl,hdb,hd,hda⟩:=Bf.out.get hlt;obtain⟨An,nn,cn,p0,p1,p2,p3,dU,hnn,-⟩:=hda;have r0:wr.cell? ⟨db,off+k*4,none⟩=some (.slice An nn cn):=(aF HS.out.below db _ hdb).trans p0;have r1:wr.cell? ⟨db,off+k*4+1,none⟩=some (.int .i64 d.on):=(aF HS.out.below db _ hdb).trans p1;have r2:wr.cell? ⟨db,off+k*4+2,none⟩=some (.int .i64 d.off):=(aF HS.out.below db _ hdb).trans p2;have r3:wr.cell? ⟨db,off+k*4+3,none⟩=some (.int .i64 d.flip):=(aF HS.out.below db _ hdb).trans p3;have HDK:=af hd;have hfl:=(EM (gQ.out d (bT hd)));obtain⟨z,hz⟩:∃x,d.flip=x:=⟨_,rfl⟩;have HZ:=Bx.mk hz;rw[hz] at r3 hfl;obtain⟨fl,rfl⟩:=bC hfl.1;have Nh:fl<32:=by omega
    have HFL:Hid (d.flip.toNat=fl):=af (by rw[hz];simp);clear p0 p1 p2 p3 dU hnn hd hz hfl;have X6:=EN (b:=f) Nh;have hp5:=Ib (b:=f) Nh;have hand:=jP fl f (by omega) (by omega);have Qz:=af (show iY (d.flip.toNat &&& f)=iY (fl &&& f) by rw[HFL.out]);obtain⟨a,ha⟩:∃a,fl &&& f=a:=⟨_,rfl⟩;rw[ha] at X6 hp5 hand Qz;obtain⟨pa,hpa⟩:∃p,iY a=p:=⟨_,rfl⟩;have Zx:=Bx.mk hpa;rw[hpa] at hp5 Qz;obtain⟨r,hr⟩:∃r,pa%2=r:=⟨_,rfl⟩;have HRR:=Bx.mk hr;have hr2:r<2:=by omega
    have m1:(pa:Int).tmod 2=(r:Int):=by rw[Int.tmod_eq_emod_of_nonneg (by omega)];omega
    have m2:(pa:Int)%2=(r:Int):=by omega
    have QE:=af (HS.out.alloc #[.slice An nn cn,.int .i64 d.on,.int .i64 d.off,.int .i64 (fl:Int)] 144);have rC:=af (QE.out.pick [0] (by decide) rfl rfl);clear hpa hr ha
    go_wp2_with fail
    refine(ou a (by omega) _).mono ?_;rw[Zx.out];rintro e w4 ⟨rfl,rfl⟩
    by_cases hr1:r=1
    ·subst hr1;have HF:=Bx.mk (Nb (f:=f) TJ.out HDK.out (by rw[Qz.out,HRR.out]));go_wp2;go_ret;exact⟨by rw[HF.out];rfl,rC.out.below⟩
    ·obtain rfl:r=0:=by omega
     have iO:=af (Ia HM.out HDK.out (by rw[Qz.out,HRR.out]));clear hr1;go_wp2
     go_roundw
     case rel=>exact⟨k+1,by omega,by go_num,iO,rC.out⟩
     case measure=>simp[intOf];omega
   ·have hke:t.ay.length≤k:=by rw[gy.out];omega
    have HKE:=Bx.mk hke;clear hke;obtain⟨a0,ha0⟩:∃a,s0 &&& f=a:=⟨_,rfl⟩;have hl0:a0<32:=by rw[←ha0];exact EN mG
    obtain⟨p0,hp0⟩:∃p,iY a0=p:=⟨_,rfl⟩;have aew:p0≤5:=by rw[←hp0,←ha0];exact Ib mG
    have HP0:=Bx.mk hp0;have HA0:=Bx.mk ha0;obtain⟨r0,hr0⟩:∃r,p0%2=r:=⟨_,rfl⟩;have aex:r0<2:=by omega
    have Ua:Hid (iY (t.start.toNat &&& f)%2=r0):=af (by rw[zB.out,ha0,hp0,hr0]);have hand0:=jP s0 f (by omega) (by omega);rw[ha0] at hand0;have m1:(p0:Int).tmod 2=(r0:Int):=by rw[Int.tmod_eq_emod_of_nonneg (by omega)];omega
    have m2:(p0:Int)%2=(r0:Int):=by omega
    clear hp0 ha0 hr0
    go_wp2_with fail
    refine(ou a0 (by omega) _).mono ?_;rw[HP0.out];rintro e w4 ⟨rfl,rfl⟩;obtain⟨N0,hN0⟩:∃N,lG t.goal=N:=⟨_,rfl⟩;have Ot:=Bx.mk (gV t.goal G6.out);have NJ:Hid (∀s,s<32→(bit N0 s == 1)=aH t.goal s):=af fun s hs=>by rw[←hN0];exact jw _ hs
    have Xb:N0<4294967296:=by rw[←hN0];exact dI _
    rw[hN0] at Ot;clear hN0
    go_wp2_with fail
    refine(ng G gn gc t.goal _ (HG.out.up HS.out.below)).mono ?_;rw[Ot.out];rintro e w5 ⟨rfl,hb5⟩;have dX:=af (HS.out.quiet hb5);clear hb5 HS qr m1 m2 hand0;go_wp2
    go_loopw [42] (fun i wr=>∃m:Nat,m≤32∧i= .int .i64 (m:Int)∧Hid (Nc t f m)∧St w wr [ah w.heap.size 26 #[.int .i64 (s0:Int),.slice G gn gc,.slice G' n' c']]) (fun i _=>32-(intOf i).toNat)
    case atStart=>exact⟨0,by omega,rfl,af (fun s h=>by omega),dX.out⟩
    case round=>
     clear dX;obtain⟨m,hm,rfl,PK,S⟩:=hrel;have HS:=af S;clear S
     by_cases xH:m<32
     ·obtain⟨gb,hgb⟩:∃b,aH t.goal m=b:=⟨_,rfl⟩;have Uf:=Bx.mk hgb;have hlm:=EN (b:=f) xH;have hpm:=Ib (b:=f) xH;obtain⟨a,ha⟩:∃a,m &&& f=a:=⟨_,rfl⟩;rw[ha] at hlm hpm;obtain⟨pa,hpa⟩:∃p,iY a=p:=⟨_,rfl⟩;rw[hpa] at hpm;have Zx:=Bx.mk hpa;have HA:=Bx.mk ha;obtain⟨r,hr⟩:∃r,pa%2=r:=⟨_,rfl⟩;have hr2:r<2:=by omega
      have HMR:Hid (iY (m &&& f)%2=r):=af (by rw[ha,hpa,hr]);have hbit:=and_one N0 m (by omega);have hb1:=NJ.out m xH;rw[hgb] at hb1;have hand:=jP m f (by omega) (by omega);rw[ha] at hand;have m1:(pa:Int).tmod 2=(r:Int):=by rw[Int.tmod_eq_emod_of_nonneg (by omega)];omega
      have m2:(pa:Int)%2=(r:Int):=by omega
      clear hgb ha hpa hr
      cases gb with
      |false=>
       have h0:bit N0 m=0:=by have:=jo N0 m;have h2:bit N0 m≠1:=(by simpa using hb1);omega
       rw[h0] at hbit;have iO:=af (y9 PK.out (fun e=>by rw[Uf.out] at e;cases e));clear hb1 h0;go_wp2
       go_roundw
       case rel=>exact⟨m+1,by omega,by go_num,iO,HS.out⟩
       case measure=>simp[intOf];omega
      |true=>
       have h1:bit N0 m=1:=by simpa using hb1
       rw[h1] at hbit;clear hb1 h1
       go_wp2_with fail
       refine(ou a (by omega) _).mono ?_;rw[Zx.out];rintro e w6 ⟨rfl,rfl⟩
       by_cases hrr:r=r0
       ·subst hrr;have HF:=Bx.mk (H9 (f:=f) TJ.out xH Uf.out (by rw[HMR.out,Ua.out]));go_wp2;go_ret;exact⟨by rw[HF.out];rfl,HS.out.below⟩
       ·have iO:=af (y9 PK.out (fun _=>by rw[HMR.out,Ua.out];exact hrr));have hne:((r:Int) == (r0:Int))=false:=beq_false_of_ne (by omega);clear hrr;go_wp2
        go_roundw
        case rel=>exact⟨m+1,by omega,by go_num,iO,HS.out⟩
        case measure=>simp[intOf];omega
     ·obtain rfl:m=32:=by omega
      have HF:=Bx.mk (QM TJ.out HM.out HKE.out PK.out);go_wp2;go_ret;exact⟨by rw[HF.out];rfl,HS.out.below⟩
theorem EP (v:Value) (t:aB) (f:Nat) (hf:f<32) (w:World) (h:oW w w.heap.size v t) (hok:aK t=true):
  Calls Tryz.prog 131 #[v,.int .i64 (f:Int)] w fun e w'=>e= .returned (.bool (kE t f))∧Below w.heap.size w w':=by
 have h':=h;obtain⟨G,gn,gc,G',n',c',rfl,hg,hgs,hds,hst⟩:=h;have aS:=af ((St.refl w).alloc #[.int .i64 t.start,.slice G gn gc,.slice G' n' c'] 26);have HT:=af h';have Bf:=af hds;have gy:=af hds.len;have bG:=af hok;have HG:=af hg;have HGN:=af hgs;obtain⟨qx,qB,pz,iL⟩:=aJ t hok;have G6:=af qB;have gQ:=af iL;have yF:n'≤6:=by rw[←hds.len];exact pz
 obtain⟨st,hst'⟩:∃x,t.start=x:=⟨_,rfl⟩;rw[hst'] at qx HT aS ⊢
 obtain⟨s0,rfl⟩:=bC qx.1;have mG:s0<32:=by omega
 have zB:Hid (t.start.toNat=s0):=af (by rw[hst'];simp);obtain⟨ob,hob⟩:∃b,iH t=b:=⟨_,rfl⟩;have TJ:=Bx.mk hob;clear h' hok hds iL pz hg hgs hst qB hst' qx hob;go_enter Tryz.func131,Tryz.ntmps131
 go_wp2_with fail
 refine(vJ _ t _ (HT.out.up aS.out.below) bG.out).mono ?_;rw[TJ.out];rintro e w2 ⟨rfl,hb2⟩;have HS2:=af (aS.out.quiet hb2);clear hb2 aS;have q2:=HS2.out.cells 0 rfl
 cases ob with
 |false=>
  have HF:=Bx.mk (V5 (f:=f) TJ.out);go_wp2;go_ret;exact⟨by rw[HF.out];rfl,HS2.out.below⟩
 |true=>
  go_wp2_with fail
  refine(fO (f:Int) 0 31 _ (by omega) (by omega)).mono ?_;rintro e w3 ⟨rfl,rfl⟩;go_wp2
  go_loopw [5] (fun i wr=>∃k:Nat,k≤n'∧i= .int .i64 (k:Int)∧Hid (EL t f k)∧St w wr [ah w.heap.size 26 #[.int .i64 (s0:Int),.slice G gn gc,.slice G' n' c']]) (fun i _=>n'-(intOf i).toNat)
  case atStart=>exact⟨0,by omega,rfl,af (fun j d h=>by omega),HS2.out⟩
  case round=>
   clear HS2 q2;obtain⟨k,hk,rfl,HM,S⟩:=hrel;have HS:=af S;clear S;have qr:=HS.out.cells 0 rfl
   by_cases hlt:k<n'
   ·obtain⟨db,off,d,rfl,hdb,hd,hda⟩:=Bf.out.get hlt;obtain⟨An,nn,cn,p0,p1,p2,p3,dU,hnn,-⟩:=hda;have r0:wr.cell? ⟨db,off+k*4,none⟩=some (.slice An nn cn):=(aF HS.out.below db _ hdb).trans p0;have r1:wr.cell? ⟨db,off+k*4+1,none⟩=some (.int .i64 d.on):=(aF HS.out.below db _ hdb).trans p1;have r2:wr.cell? ⟨db,off+k*4+2,none⟩=some (.int .i64 d.off):=(aF HS.out.below db _ hdb).trans p2;have r3:wr.cell? ⟨db,off+k*4+3,none⟩=some (.int .i64 d.flip):=(aF HS.out.below db _ hdb).trans p3;have HDK:=af hd;have hfl:=(EM (gQ.out d (bT hd)));obtain⟨z,hz⟩:∃x,d.flip=x:=⟨_,rfl⟩;have HZ:=Bx.mk hz;rw[hz] at r3 hfl;obtain⟨fl,rfl⟩:=bC hfl.1;have Nh:fl<32:=by omega
    have HFL:Hid (d.flip.toNat=fl):=af (by rw[hz];simp);clear p0 p1 p2 p3 dU hnn hd hz hfl;have X6:=EN (b:=f) Nh;have hp5:=Ib (b:=f) Nh;have hand:=jP fl f (by omega) (by omega);have Qz:=af (show iY (d.flip.toNat &&& f)=iY (fl &&& f) by rw[HFL.out]);obtain⟨a,ha⟩:∃a,fl &&& f=a:=⟨_,rfl⟩;rw[ha] at X6 hp5 hand Qz;obtain⟨pa,hpa⟩:∃p,iY a=p:=⟨_,rfl⟩;have Zx:=Bx.mk hpa;rw[hpa] at hp5 Qz;obtain⟨r,hr⟩:∃r,pa%2=r:=⟨_,rfl⟩;have HRR:=Bx.mk hr;have hr2:r<2:=by omega
    have m1:(pa:Int).tmod 2=(r:Int):=by rw[Int.tmod_eq_emod_of_nonneg (by omega)];omega
    have m2:(pa:Int)%2=(r:Int):=by omega
    have HA:=Bx.mk ha;have rC:=HS;clear hpa hr ha
    go_wp2_with fail
    refine(jU fl f (by omega) _).mono ?_;rw[HA.out];rintro e w4 ⟨rfl,rfl⟩
    go_wp2_with fail
    refine(qy a X6 _).mono ?_;rw[Zx.out];rintro e w5 ⟨rfl,rfl⟩
    by_cases hr1:r=1
    ·subst hr1;have HF:=Bx.mk (Nb (f:=f) TJ.out HDK.out (by rw[Qz.out,HRR.out]));go_wp2;go_ret;exact⟨by rw[HF.out];rfl,rC.out.below⟩
    ·obtain rfl:r=0:=by omega
     have iO:=af (Ia HM.out HDK.out (by rw[Qz.out,HRR.out]));clear hr1;go_wp2
     go_roundw
     case rel=>exact⟨k+1,by omega,by go_num,iO,rC.out⟩
     case measure=>simp[intOf];omega
   ·have hke:t.ay.length≤k:=by rw[gy.out];omega
    have HKE:=Bx.mk hke;clear hke;obtain⟨a0,ha0⟩:∃a,s0 &&& f=a:=⟨_,rfl⟩;have hl0:a0<32:=by rw[←ha0];exact EN mG
    obtain⟨p0,hp0⟩:∃p,iY a0=p:=⟨_,rfl⟩;have aew:p0≤5:=by rw[←hp0,←ha0];exact Ib mG
    have HP0:=Bx.mk hp0;have HA0:=Bx.mk ha0;obtain⟨r0,hr0⟩:∃r,p0%2=r:=⟨_,rfl⟩;have aex:r0<2:=by omega
    have Ua:Hid (iY (t.start.toNat &&& f)%2=r0):=af (by rw[zB.out,ha0,hp0,hr0]);clear hp0 ha0;have dX:=HS;go_wp2
    go_loopw [6] (fun i wr=>∃m:Nat,m≤32∧i= .int .i64 (m:Int)∧Hid (Nc t f m)∧St w wr [ah w.heap.size 26 #[.int .i64 (s0:Int),.slice G gn gc,.slice G' n' c']]) (fun i _=>32-(intOf i).toNat)
    case atStart=>exact⟨0,by omega,rfl,af (fun s h=>by omega),dX.out⟩
    case round=>
     clear dX HS qr;obtain⟨m,hm,rfl,PK,S⟩:=hrel;have HS:=af S;clear S
     by_cases xH:m<32
     ·obtain⟨gb,hgb⟩:∃b,aH t.goal m=b:=⟨_,rfl⟩;have Uf:=Bx.mk hgb;have hlm:=EN (b:=f) xH;have hpm:=Ib (b:=f) xH;obtain⟨a,ha⟩:∃a,m &&& f=a:=⟨_,rfl⟩;rw[ha] at hlm hpm;obtain⟨pa,hpa⟩:∃p,iY a=p:=⟨_,rfl⟩;rw[hpa] at hpm;have Zx:=Bx.mk hpa;have HA:=Bx.mk ha;obtain⟨r,hr⟩:∃r,pa%2=r:=⟨_,rfl⟩;have hr2:r<2:=by omega
      have HMR:Hid (iY (m &&& f)%2=r):=af (by rw[ha,hpa,hr]);have C0:=af (HS.out.cells 0 rfl 0);have C1:=af (HS.out.cells 0 rfl 1);have Zy:Hid (w.heap.size<wr.heap.size):=af (HS.out.new 0 rfl).2;clear hgb ha hpa
      cases gb with
      |false=>
       have iO:=af (y9 PK.out (fun e=>by rw[Uf.out] at e;cases e));clear hr
       go_upto_region 11 with(fail)
       refine kG (σ:=Unit)
        (fun _ i=>match i with
        |0=>.pointer (some ⟨w.heap.size,1,none⟩)
        |1=>.slice G gn gc
        |2=>.int .i64 (m:Int)
        |3=>.bool false
        |4=>.bool false
        |17=>.bool false
        |_=>undef)
        (fun D _ wx=>Below wr.heap.size wr wx) () (fun D hD=>(ai _ _).drew) ?_ ?_
       ·refine Cs (fun D _ wx hR _ hd _ _ hs K hK=>?_) ?_
        ·have e2:=hs.o 2 (.pointer (some ⟨w.heap.size,0,none⟩));clear hs;go_simp;exact hK () wx sv hR
        refine Cs (fun D _ wx hR _ hd _ _ hs K hK=>?_) ?_
        ·have e37:=hs.v 0 37 hd;clear hs;have c0:wx.cell? ⟨w.heap.size,1,none⟩=some (.slice G gn gc):=(aF hR _ _ Zy.out).trans C1.out;go_simp;exact hK () wx sv hR
        refine Cs (fun D _ wx hR _ hd _ _ hs K hK=>?_) ?_
        ·have e6:=hs.o 6 (.int .i64 (m:Int));clear hs;go_simp;exact hK () wx sv hR
        refine Cs (fun D _ wx hR _ hd _ _ hs K hK=>?_) ?_
        ·have e38:=hs.v 1 38 hd;have e39:=hs.v 2 39 hd;have g38:=aX e38;have g39:=aX e39;clear hs;go_simp;refine(kU G gn gc t.goal m wx (HG.out.up (HS.out.below.trans (hR.mono HS.out.below.size))) G6.out xH).mono ?_;rw[Uf.out];rintro e2 w2 ⟨rfl,hb2⟩;exact hK () w2 sv (hR.trans (hb2.mono hR.size))
        refine Cs (fun D _ wx hR _ hd _ _ hs K hK=>?_) ?_
        ·have e40:=hs.v 3 40 hd;clear hs;go_simp;exact hK () wx sv hR
        refine aj.skip 4 41 false ?_;refine aj.skip 4 41 false ?_;refine aj.skip 4 41 false ?_;refine aj.skip 4 41 false ?_;refine aj.skip 4 41 false ?_;refine aj.skip 4 41 false ?_;refine aj.skip 4 41 false ?_;refine aj.skip 4 41 false ?_;refine aj.skip 4 41 false ?_;refine aj.skip 4 41 false ?_;refine aj.skip 4 41 false ?_;refine aj.skip 4 41 false ?_;refine Cs (fun D _ wx hR _ hd _ _ hs K hK=>?_) ?_
        ·have e41:=hs.v 4 41 hd;have e53:=hs.v 16 53 hd;clear hs;go_simp;exact hK () wx sv hR
        exact aj.nil
       intro D _ wx hR hD;simp only[eH,Act.put,aO,aU,aW];have X7:=af (HS.out.quiet hR);clear hR hD HS C0 C1 Zy;go_wp2
       go_roundw
       case rel=>exact⟨m+1,by omega,by go_num,iO,X7.out⟩
       case measure=>simp[intOf];omega
      |true=>
       obtain⟨ss,hss⟩:∃x,pa+p0=x:=⟨_,rfl⟩;obtain⟨rs,hrs⟩:∃x,ss%2=x:=⟨_,rfl⟩;have Zv:=Bx.mk (show(pa:Int)+(p0:Int)=(ss:Int) by omega);have HSW:=Bx.mk (show IntKind.i64.wrap (ss:Int)=(ss:Int) by rw[IntKind.wrap_i64]<;>omega);have HRS:=Bx.mk (show(ss:Int)%2=(rs:Int) by omega);have HRT:=Bx.mk (show(ss:Int).tmod 2=(rs:Int) by rw[Int.tmod_eq_emod_of_nonneg (by omega)];omega)
       by_cases hrr:r=r0
       ·have HF:=Bx.mk (H9 (f:=f) TJ.out xH Uf.out (by rw[HMR.out,Ua.out];exact hrr));have HEB:=Bx.mk (show((rs:Int) == 0)=true by rw[beq_iff_eq];omega);clear hrr hrs hss hr hr0
        go_upto_region 11 with(fail)
        refine kG (σ:=Unit)
         (fun _ i=>match i with
         |0=>.pointer (some ⟨w.heap.size,1,none⟩)
         |1=>.slice G gn gc
         |2=>.int .i64 (m:Int)
         |3=>.bool true
         |4=>.bool true
         |5=>.int .i64 (m:Int)
         |6=>.int .i64 (f:Int)
         |7=>.int .i64 (a:Int)
         |8=>.int .i64 (pa:Int)
         |9=>.pointer (some ⟨w.heap.size,0,none⟩)
         |10=>.int .i64 (s0:Int)
         |11=>.int .i64 (f:Int)
         |12=>.int .i64 (a0:Int)
         |13=>.int .i64 (p0:Int)
         |14=>.int .i64 (ss:Int)
         |15=>.int .i64 (rs:Int)
         |16=>.bool true
         |17=>.bool true
         |_=>undef)
         (fun D _ wx=>Below wr.heap.size wr wx) () (fun D hD=>(ai _ _).drew) ?_ ?_
        ·refine Cs (fun D _ wx hR _ hd _ _ hs K hK=>?_) ?_
         ·have e2:=hs.o 2 (.pointer (some ⟨w.heap.size,0,none⟩));clear hs;go_simp;exact hK () wx sv hR
         refine Cs (fun D _ wx hR _ hd _ _ hs K hK=>?_) ?_
         ·have e37:=hs.v 0 37 hd;clear hs;have c0:wx.cell? ⟨w.heap.size,1,none⟩=some (.slice G gn gc):=(aF hR _ _ Zy.out).trans C1.out;go_simp;exact hK () wx sv hR
         refine Cs (fun D _ wx hR _ hd _ _ hs K hK=>?_) ?_
         ·have e6:=hs.o 6 (.int .i64 (m:Int));clear hs;go_simp;exact hK () wx sv hR
         refine Cs (fun D _ wx hR _ hd _ _ hs K hK=>?_) ?_
         ·have e38:=hs.v 1 38 hd;have e39:=hs.v 2 39 hd;have g38:=aX e38;have g39:=aX e39;clear hs;go_simp;refine(kU G gn gc t.goal m wx (HG.out.up (HS.out.below.trans (hR.mono HS.out.below.size))) G6.out xH).mono ?_;rw[Uf.out];rintro e2 w2 ⟨rfl,hb2⟩;exact hK () w2 sv (hR.trans (hb2.mono hR.size))
         refine Cs (fun D _ wx hR _ hd _ _ hs K hK=>?_) ?_
         ·have e40:=hs.v 3 40 hd;clear hs;go_simp;exact hK () wx sv hR
         refine dJ (fun D _ wx hR _ hd _ _ hs K hK=>?_) ?_
         ·refine hs.yes 4 41 true hd ?_;have e6:=hs.o 6 (.int .i64 (m:Int));clear hs;go_simp;exact hK () wx sv hR
         refine dJ (fun D _ wx hR _ hd _ _ hs K hK=>?_) ?_
         ·refine hs.yes 4 41 true hd ?_;have e1:=hs.o 1 (.int .i64 (f:Int));clear hs;go_simp;exact hK () wx sv hR
         refine dJ (fun D _ wx hR _ hd _ _ hs K hK=>?_) ?_
         ·refine hs.yes 4 41 true hd ?_;have e42:=hs.v 5 42 hd;have e43:=hs.v 6 43 hd;have g42:=aX e42;have g43:=aX e43;clear hs;go_simp;refine(jU m f (by omega) wx).mono ?_;rw[HA.out];rintro e2 w2 ⟨rfl,rfl⟩;exact hK () wx sv hR
         refine dJ (fun D _ wx hR _ hd _ _ hs K hK=>?_) ?_
         ·refine hs.yes 4 41 true hd ?_;have e44:=hs.v 7 44 hd;have g44:=aX e44;clear hs;go_simp;refine(qy a hlm wx).mono ?_;rw[Zx.out];rintro e2 w2 ⟨rfl,rfl⟩;exact hK () wx sv hR
         refine dJ (fun D _ wx hR _ hd _ _ hs K hK=>?_) ?_
         ·refine hs.yes 4 41 true hd ?_;have e2:=hs.o 2 (.pointer (some ⟨w.heap.size,0,none⟩));clear hs;go_simp;exact hK () wx sv hR
         refine dJ (fun D _ wx hR _ hd _ _ hs K hK=>?_) ?_
         ·refine hs.yes 4 41 true hd ?_;have e46:=hs.v 9 46 hd;clear hs;have c0:wx.cell? ⟨w.heap.size,0,none⟩=some (.int .i64 (s0:Int)):=(aF hR _ _ Zy.out).trans C0.out;go_simp;exact hK () wx sv hR
         refine dJ (fun D _ wx hR _ hd _ _ hs K hK=>?_) ?_
         ·refine hs.yes 4 41 true hd ?_;have e1:=hs.o 1 (.int .i64 (f:Int));clear hs;go_simp;exact hK () wx sv hR
         refine dJ (fun D _ wx hR _ hd _ _ hs K hK=>?_) ?_
         ·refine hs.yes 4 41 true hd ?_;have e47:=hs.v 10 47 hd;have e48:=hs.v 11 48 hd;have g47:=aX e47;have g48:=aX e48;clear hs;go_simp;refine(jU s0 f (by omega) wx).mono ?_;rw[HA0.out];rintro e2 w2 ⟨rfl,rfl⟩;exact hK () wx sv hR
         refine dJ (fun D _ wx hR _ hd _ _ hs K hK=>?_) ?_
         ·refine hs.yes 4 41 true hd ?_;have e49:=hs.v 12 49 hd;have g49:=aX e49;clear hs;go_simp;refine(qy a0 hl0 wx).mono ?_;rw[HP0.out];rintro e2 w2 ⟨rfl,rfl⟩;exact hK () wx sv hR
         refine dJ (fun D _ wx hR _ hd _ _ hs K hK=>?_) ?_
         ·refine hs.yes 4 41 true hd ?_;have e45:=hs.v 8 45 hd;have e50:=hs.v 13 50 hd;clear hs;have q1:=Zv.out;have q2:=HSW.out;go_simp;exact hK () wx sv hR
         refine dJ (fun D _ wx hR _ hd _ _ hs K hK=>?_) ?_
         ·refine hs.yes 4 41 true hd ?_;have e51:=hs.v 14 51 hd;clear hs;have q1:=HRS.out;have q2:=HRT.out;go_simp;exact hK () wx sv hR
         refine dJ (fun D _ wx hR _ hd _ _ hs K hK=>?_) ?_
         ·refine hs.yes 4 41 true hd ?_;have e52:=hs.v 15 52 hd;clear hs;have q1:=HEB.out;go_simp;exact hK () wx sv hR
         refine Cs (fun D _ wx hR _ hd _ _ hs K hK=>?_) ?_
         ·have e41:=hs.v 4 41 hd;have e53:=hs.v 16 53 hd;clear hs;go_simp;exact hK () wx sv hR
         exact aj.nil
        intro D _ wx hR hD;simp only[eH,Act.put,aO,aU,aW];have X7:=af (HS.out.quiet hR);clear hR hD HS C0 C1 Zy;go_wp2;go_ret;exact⟨by rw[HF.out];rfl,X7.out.below⟩
       ·have iO:=af (y9 PK.out (fun _=>by rw[HMR.out,Ua.out];exact hrr));have HEB:=Bx.mk (show((rs:Int) == 0)=false from beq_false_of_ne (by omega));clear hrr hrs hss hr
        go_upto_region 11 with(fail)
        refine kG (σ:=Unit)
         (fun _ i=>match i with
         |0=>.pointer (some ⟨w.heap.size,1,none⟩)
         |1=>.slice G gn gc
         |2=>.int .i64 (m:Int)
         |3=>.bool true
         |4=>.bool true
         |5=>.int .i64 (m:Int)
         |6=>.int .i64 (f:Int)
         |7=>.int .i64 (a:Int)
         |8=>.int .i64 (pa:Int)
         |9=>.pointer (some ⟨w.heap.size,0,none⟩)
         |10=>.int .i64 (s0:Int)
         |11=>.int .i64 (f:Int)
         |12=>.int .i64 (a0:Int)
         |13=>.int .i64 (p0:Int)
         |14=>.int .i64 (ss:Int)
         |15=>.int .i64 (rs:Int)
         |16=>.bool false
         |17=>.bool false
         |_=>undef)
         (fun D _ wx=>Below wr.heap.size wr wx) () (fun D hD=>(ai _ _).drew) ?_ ?_
        ·refine Cs (fun D _ wx hR _ hd _ _ hs K hK=>?_) ?_
         ·have e2:=hs.o 2 (.pointer (some ⟨w.heap.size,0,none⟩));clear hs;go_simp;exact hK () wx sv hR
         refine Cs (fun D _ wx hR _ hd _ _ hs K hK=>?_) ?_
         ·have e37:=hs.v 0 37 hd;clear hs;have c0:wx.cell? ⟨w.heap.size,1,none⟩=some (.slice G gn gc):=(aF hR _ _ Zy.out).trans C1.out;go_simp;exact hK () wx sv hR
         refine Cs (fun D _ wx hR _ hd _ _ hs K hK=>?_) ?_
         ·have e6:=hs.o 6 (.int .i64 (m:Int));clear hs;go_simp;exact hK () wx sv hR
         refine Cs (fun D _ wx hR _ hd _ _ hs K hK=>?_) ?_
         ·have e38:=hs.v 1 38 hd;have e39:=hs.v 2 39 hd;have g38:=aX e38;have g39:=aX e39;clear hs;go_simp;refine(kU G gn gc t.goal m wx (HG.out.up (HS.out.below.trans (hR.mono HS.out.below.size))) G6.out xH).mono ?_;rw[Uf.out];rintro e2 w2 ⟨rfl,hb2⟩;exact hK () w2 sv (hR.trans (hb2.mono hR.size))
         refine Cs (fun D _ wx hR _ hd _ _ hs K hK=>?_) ?_
         ·have e40:=hs.v 3 40 hd;clear hs;go_simp;exact hK () wx sv hR
         refine dJ (fun D _ wx hR _ hd _ _ hs K hK=>?_) ?_
         ·refine hs.yes 4 41 true hd ?_;have e6:=hs.o 6 (.int .i64 (m:Int));clear hs;go_simp;exact hK () wx sv hR
         refine dJ (fun D _ wx hR _ hd _ _ hs K hK=>?_) ?_
         ·refine hs.yes 4 41 true hd ?_;have e1:=hs.o 1 (.int .i64 (f:Int));clear hs;go_simp;exact hK () wx sv hR
         refine dJ (fun D _ wx hR _ hd _ _ hs K hK=>?_) ?_
         ·refine hs.yes 4 41 true hd ?_;have e42:=hs.v 5 42 hd;have e43:=hs.v 6 43 hd;have g42:=aX e42;have g43:=aX e43;clear hs;go_simp;refine(jU m f (by omega) wx).mono ?_;rw[HA.out];rintro e2 w2 ⟨rfl,rfl⟩;exact hK () wx sv hR
         refine dJ (fun D _ wx hR _ hd _ _ hs K hK=>?_) ?_
         ·refine hs.yes 4 41 true hd ?_;have e44:=hs.v 7 44 hd;have g44:=aX e44;clear hs;go_simp;refine(qy a hlm wx).mono ?_;rw[Zx.out];rintro e2 w2 ⟨rfl,rfl⟩;exact hK () wx sv hR
         refine dJ (fun D _ wx hR _ hd _ _ hs K hK=>?_) ?_
         ·refine hs.yes 4 41 true hd ?_;have e2:=hs.o 2 (.pointer (some ⟨w.heap.size,0,none⟩));clear hs;go_simp;exact hK () wx sv hR
         refine dJ (fun D _ wx hR _ hd _ _ hs K hK=>?_) ?_
         ·refine hs.yes 4 41 true hd ?_;have e46:=hs.v 9 46 hd;clear hs;have c0:wx.cell? ⟨w.heap.size,0,none⟩=some (.int .i64 (s0:Int)):=(aF hR _ _ Zy.out).trans C0.out;go_simp;exact hK () wx sv hR
         refine dJ (fun D _ wx hR _ hd _ _ hs K hK=>?_) ?_
         ·refine hs.yes 4 41 true hd ?_;have e1:=hs.o 1 (.int .i64 (f:Int));clear hs;go_simp;exact hK () wx sv hR
         refine dJ (fun D _ wx hR _ hd _ _ hs K hK=>?_) ?_
         ·refine hs.yes 4 41 true hd ?_;have e47:=hs.v 10 47 hd;have e48:=hs.v 11 48 hd;have g47:=aX e47;have g48:=aX e48;clear hs;go_simp;refine(jU s0 f (by omega) wx).mono ?_;rw[HA0.out];rintro e2 w2 ⟨rfl,rfl⟩;exact hK () wx sv hR
         refine dJ (fun D _ wx hR _ hd _ _ hs K hK=>?_) ?_
         ·refine hs.yes 4 41 true hd ?_;have e49:=hs.v 12 49 hd;have g49:=aX e49;clear hs;go_simp;refine(qy a0 hl0 wx).mono ?_;rw[HP0.out];rintro e2 w2 ⟨rfl,rfl⟩;exact hK () wx sv hR
         refine dJ (fun D _ wx hR _ hd _ _ hs K hK=>?_) ?_
         ·refine hs.yes 4 41 true hd ?_;have e45:=hs.v 8 45 hd;have e50:=hs.v 13 50 hd;clear hs;have q1:=Zv.out;have q2:=HSW.out;go_simp;exact hK () wx sv hR
         refine dJ (fun D _ wx hR _ hd _ _ hs K hK=>?_) ?_
         ·refine hs.yes 4 41 true hd ?_;have e51:=hs.v 14 51 hd;clear hs;have q1:=HRS.out;have q2:=HRT.out;go_simp;exact hK () wx sv hR
         refine dJ (fun D _ wx hR _ hd _ _ hs K hK=>?_) ?_
         ·refine hs.yes 4 41 true hd ?_;have e52:=hs.v 15 52 hd;clear hs;have q1:=HEB.out;go_simp;exact hK () wx sv hR
         refine Cs (fun D _ wx hR _ hd _ _ hs K hK=>?_) ?_
         ·have e41:=hs.v 4 41 hd;have e53:=hs.v 16 53 hd;clear hs;go_simp;exact hK () wx sv hR
         exact aj.nil
        intro D _ wx hR hD;simp only[eH,Act.put,aO,aU,aW];have X7:=af (HS.out.quiet hR);clear hR hD HS C0 C1 Zy;go_wp2
        go_roundw
        case rel=>exact⟨m+1,by omega,by go_num,iO,X7.out⟩
        case measure=>simp[intOf];omega
     ·obtain rfl:m=32:=by omega
      have HF:=Bx.mk (QM TJ.out HM.out HKE.out PK.out);go_wp2;go_ret;exact⟨by rw[HF.out];rfl,HS.out.below⟩
theorem Nj (v:Value) (t:aB) (w:World) (h:oW w w.heap.size v t) (hok:aK t=true):
  Calls Tryz.prog 166 #[v] w fun e w'=>e= .returned (.tuple #[.int .i64 (opt (kN t)),.bool (kN t).isSome])∧Below w.heap.size w w':=by
 have h':=h;obtain⟨G,gn,gc,G',n',c',rfl,hg,hgs,hds,hst⟩:=h;have aS:=af ((St.refl w).alloc #[.int .i64 t.start,.slice G gn gc,.slice G' n' c'] 26);have HT:=af h';have bG:=af hok;obtain⟨o,ho⟩:∃o,kN t=o:=⟨_,rfl⟩;have HO:=Bx.mk ho;rw[ho];clear h' hok hds hg hgs hst ho;go_enter Tryz.func166,Tryz.ntmps166;go_wp2
 go_loopw [5] (fun i wr=>∃k:Nat,k≤32∧i= .int .i64 (k:Int)∧Hid (∀j,j<k→kE t j=false)∧St w wr [ah w.heap.size 26 #[.int .i64 t.start,.slice G gn gc,.slice G' n' c']]) (fun i _=>32-(intOf i).toNat)
 case atStart=>exact⟨0,by omega,rfl,af (by omega),aS.out⟩
 case round=>
  clear aS;obtain⟨k,hk,rfl,HM,S⟩:=hrel;have HS:=af S;clear S
  by_cases hlt:k<32
  ·have q0:=HS.out.cells 0 rfl;obtain⟨b,hb⟩:∃b,kE t k=b:=⟨_,rfl⟩;have HB:=Bx.mk hb;clear hb
   go_wp2_with fail
   refine(ED _ t k hlt _ (HT.out.up HS.out.below) bG.out).mono ?_;rw[HB.out];rintro e w1 ⟨rfl,hb1⟩;have bf:=af (HS.out.quiet hb1);clear hb1
   cases b with
   |true=>
    have HV:Hid (o=some k):=af (by
     rw[←HO.out]
     unfold kN
     rw[List.find?_range_eq_some]
     exact⟨HB.out,by simpa using hlt,fun j hj=>by rw[HM.out j hj];rfl⟩)
    go_wp2;exact bodyPost_ret (v:=.tuple #[.int .i64 (k:Int),.bool true]) (by simp[results,Tryz.results166,go_sem]) rfl ⟨by rw[HV.out];rfl,bf.out.below⟩
   |false=>
    have iO:Hid (∀j,j<k+1→kE t j=false):=af fun j hj=>by
     rcases Nat.lt_or_ge j k with h | h
     ·exact HM.out j h
     ·obtain rfl:j=k:=by omega
      exact HB.out
    go_wp2
    go_roundw
    case rel=>exact⟨k+1,by omega,by go_num,iO,bf.out⟩
    case measure=>simp[intOf];omega
  ·have HV:Hid (o=none):=af (by
    rw[←HO.out]
    unfold kN
    rw[List.find?_eq_none];intro j hj
    rw[HM.out j (by have:=List.mem_range.1 hj;omega)];simp)
   go_wp2;exact bodyPost_ret (v:=.tuple #[.int .i64 (-1),.bool false]) (by simp[results,Tryz.results166,go_sem]) rfl ⟨by rw[HV.out];rfl,HS.out.below⟩
theorem Nk (v:Value) (t:aB) (w:World) (h:oW w w.heap.size v t) (hok:aK t=true):
  Calls Tryz.prog 105 #[v] w fun e w'=>e= .returned (.tuple #[.int .i64 (opt (kN t)),.bool (kN t).isSome])∧Below w.heap.size w w':=by
 have h':=h;obtain⟨G,gn,gc,G',n',c',rfl,hg,hgs,hds,hst⟩:=h;have aS:=af ((St.refl w).alloc #[.int .i64 t.start,.slice G gn gc,.slice G' n' c'] 26);have HT:=af h';have bG:=af hok;obtain⟨o,ho⟩:∃o,kN t=o:=⟨_,rfl⟩;have HO:=Bx.mk ho;rw[ho];clear h' hok hds hg hgs hst ho;go_enter Tryz.func105,Tryz.ntmps105;go_wp2
 go_loopw [4] (fun i wr=>∃k:Nat,k≤32∧i= .int .i64 (k:Int)∧Hid (∀j,j<k→kE t j=false)∧St w wr [ah w.heap.size 26 #[.int .i64 t.start,.slice G gn gc,.slice G' n' c']]) (fun i _=>32-(intOf i).toNat)
 case atStart=>exact⟨0,by omega,rfl,af (by omega),aS.out⟩
 case round=>
  clear aS;obtain⟨k,hk,rfl,HM,S⟩:=hrel;have HS:=af S;clear S
  by_cases hlt:k<32
  ·have q0:=HS.out.cells 0 rfl;obtain⟨b,hb⟩:∃b,kE t k=b:=⟨_,rfl⟩;have HB:=Bx.mk hb;clear hb
   go_wp2_with fail
   refine(EP _ t k hlt _ (HT.out.up HS.out.below) bG.out).mono ?_;rw[HB.out];rintro e w1 ⟨rfl,hb1⟩;have bf:=af (HS.out.quiet hb1);clear hb1
   cases b with
   |true=>
    have HV:Hid (o=some k):=af (by
     rw[←HO.out]
     unfold kN
     rw[List.find?_range_eq_some]
     exact⟨HB.out,by simpa using hlt,fun j hj=>by rw[HM.out j hj];rfl⟩)
    go_wp2;exact bodyPost_ret (v:=.tuple #[.int .i64 (k:Int),.bool true]) (by simp[results,Tryz.results105,go_sem]) rfl ⟨by rw[HV.out];rfl,bf.out.below⟩
   |false=>
    have iO:Hid (∀j,j<k+1→kE t j=false):=af fun j hj=>by
     rcases Nat.lt_or_ge j k with h | h
     ·exact HM.out j h
     ·obtain rfl:j=k:=by omega
      exact HB.out
    go_wp2
    go_roundw
    case rel=>exact⟨k+1,by omega,by go_num,iO,bf.out⟩
    case measure=>simp[intOf];omega
  ·have HV:Hid (o=none):=af (by
    rw[←HO.out]
    unfold kN
    rw[List.find?_eq_none];intro j hj
    rw[HM.out j (by have:=List.mem_range.1 hj;omega)];simp)
   go_wp2;exact bodyPost_ret (v:=.tuple #[.int .i64 (-1),.bool false]) (by simp[results,Tryz.results105,go_sem]) rfl ⟨by rw[HV.out];rfl,HS.out.below⟩
end Go.Proofs.YtkmcengmglgdeaaGreatDoor
