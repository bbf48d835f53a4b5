/- Joined texts: PlanW, Book. -/
import Derived.Test.YtkmcengmglgdeaaGreatDoorSSt
import Derived.Test.YtkmcengmglgdeaaGreatDoorSPush

namespace Go.Proofs.YtkmcengmglgdeaaGreatDoor
set_option linter.unusedVariables false
set_option linter.unusedSimpArgs false
set_option maxRecDepth 100000
set_option maxHeartbeats 8000000
open Go.ChangeShapes Go.WideShapes Go.ChangeAt Go.RowKit
theorem ng (t:aB) (s:Int) (p:List Int) (h:¬(aK t=true∧ig s=true∧p.length≤40)):aF t s p= -1:=if_neg h
theorem Ah (t:aB) (s:Int) (p:List Int) (h1:aK t=true) (h2:ig s=true) (h3:p.length≤40):aF t s p=opt (kT t s.toNat p):=if_pos ⟨h1,h2,h3⟩
theorem zo (t:aB) (s:Nat) (k:Int) (h:¬(0≤k∧k<t.ax.length)):lK t s k=none:=if_neg h
theorem Ky (t:aB) (s:Nat) (k:Nat) (d:aj) (h:t.ax[k]? =some d):lK t s k=aX d s:=by
 have hl:=(aW.1 h).1
 unfold lK
 rw[if_pos ⟨by omega,by omega⟩,dD,h];rfl
theorem Df (d:aj) (s:Nat) (h:aH d.need s=true):aX d s=some (behind d s):=if_pos h
theorem F6 (d:aj) (s:Nat) (h:aH d.need s=false):aX d s=none:=if_neg (by rw[h];simp)
theorem mF (A:Option Addr) (n c:Nat) (d:aj) (s:Nat) (w:World) (h:iO .i64 w w.heap.size A n c d.need) (hok:bJ d=true) (hs:s<32):
  Calls Tryz.prog 142 #[.agg #[.slice A n c,.int .i64 d.on,.int .i64 d.off,.int .i64 d.flip],.int .i64 s] w fun e w'=>e= .returned (.int .i64 (opt (aX d s)))∧Below w.heap.size w w':=by
 have hp:=kG d hok;have S0:=(St.refl w).alloc #[.slice A n c,.int .i64 d.on,.int .i64 d.off,.int .i64 d.flip] 144;have HR:=af (tK A n c d.need s _ (h.up S0.below) hp.1 hs);have aQ:=af S0;have HB:=af (JO d s hs hok);have hlt:=y5 d s hok hs;clear S0 hp;obtain⟨bv,hv⟩:∃b,aH d.need s=b:=⟨_,rfl⟩;have HV:=af hv;clear hv;go_enter Tryz.func142,Tryz.ntmps142
 go_wp2_with fail
 refine HR.out.mono ?_;rw[HV.out];rintro e w1 ⟨rfl,hb1⟩;have S1:=aQ.out.quiet hb1;have q0:=S1.cells 0 rfl;have bG:=af S1;clear S1 hb1
 cases bv with
 |false=>
  go_wp2;go_ret;exact⟨aG (by rw[F6 d s HV.out];rfl),bG.out.below⟩
 |true=>
  go_wp2;rw[HB.out];go_ret;exact⟨aG (by rw[Df d s HV.out];rfl),bG.out.below⟩
theorem um (A:Option Addr) (n c:Nat) (d:aj) (s:Nat) (w:World) (h:iO .i64 w w.heap.size A n c d.need) (hok:bJ d=true) (hs:s<32):
  Calls Tryz.prog 136 #[.agg #[.slice A n c,.int .i64 d.on,.int .i64 d.off,.int .i64 d.flip],.int .i64 s] w fun e w'=>e= .returned (.int .i64 (opt (aX d s)))∧Below w.heap.size w w':=by
 have hp:=kG d hok;obtain⟨hp0,hp1,hp2,hp3,-⟩:=hp;have S0:=(St.refl w).alloc #[.slice A n c,.int .i64 d.on,.int .i64 d.off,.int .i64 d.flip] 144;have HR:=af (kE A n c d.need s _ (h.up S0.below) hp0 hs);have aQ:=af S0;have HB:=af (JQ d s hok);have hlt:=y5 d s hok hs;obtain⟨bv,hv⟩:∃b,aH d.need s=b:=⟨_,rfl⟩;have HV:=af hv;clear S0 hv;obtain⟨need,on,of,fl⟩:=d
 simp only at hp1 hp2 hp3
 obtain⟨a,rfl⟩:=bI hp1.1;obtain⟨o,rfl⟩:=bI hp2.1;obtain⟨f,rfl⟩:=bI hp3.1;obtain⟨-,hp1⟩:=hp1;obtain⟨-,hp2⟩:=hp2;obtain⟨-,hp3⟩:=hp3;have ho:s ||| a<32:=Hy hs (by omega)
 have hx:s &&& o≤s ||| a:=Nat.le_trans Nat.and_le_left (Nat.left_le_or)
 have C1:=af (fun w=>nZ (s:Int) (a:Int) (by omega) (by omega) (by omega) (by omega) w);have C2:=af (fun w=>jK s o (by omega) w);have C3:=af (fun w=>JH (((s ||| a:Nat):Int)-((s &&& o:Nat):Int)) (f:Int) (by omega) (by omega) (by omega) (by omega) w);simp only[dD] at C1 C3 HB;have HX:Hid ((((s ||| a:Nat):Int)-((s &&& o:Nat):Int)).toNat^^^f=behind ⟨need,a,o,f⟩ s):=af (by rw[HB.out];congr 1;omega);clear HB hok;go_enter Tryz.func136,Tryz.ntmps136
 go_wp2_with fail
 refine HR.out.mono ?_;rw[HV.out];rintro e w1 ⟨rfl,hb1⟩;have S1:=aQ.out.quiet hb1;have q0:=S1.cells 0 rfl;have bG:=af S1;clear S1 hb1
 cases bv with
 |false=>
  go_wp2;go_ret;exact⟨aG (by rw[F6 _ s HV.out];rfl),bG.out.below⟩
 |true=>
  go_upto_region 3 with(fail)
  go_quiet ((first
   | (go_at_call 159;with_reducible exact oK (C1.out _))
   | (go_at_call 157;with_reducible exact oK (C2.out _))
   | (go_at_call 103;with_reducible exact oK (C3.out _))))
  go_wp2;go_ret;exact⟨aG (by rw[Df _ s HV.out,←HX.out];rfl),bG.out.below.trans (below_drewN (ai _ _) _)⟩
theorem lU (v:Value) (t:aB) (s0:Int) (A:Option Addr) (n c:Nat) (p:List Int) (w:World) (h:nI w w.heap.size v t) (hp:iO .i64 w w.heap.size A n c p):
  Calls Tryz.prog 73 #[v,.int .i64 s0,.slice A n c] w fun e w'=>e= .returned (.int .i64 (aF t s0 p))∧Below w.heap.size w w':=by
 have h':=h;obtain⟨G,gn,gc,G',n',c',rfl,hg,hgs,hds,hst⟩:=h;have S0:=(St.refl w).alloc #[.int .i64 t.start,.slice G gn gc,.slice G' n' c'] 26;have HT:=af (h'.up S0.below);have aQ:=af S0;have hl:=hp.len;have hcap:=hp.cap;have hcm:=hp.bZ
 unfold maxLen at hcm
 have HL:=af hl;have hdl:=hds.len;have fF:=af hdl;clear S0 hl hdl h';obtain⟨bo,hok⟩:∃b,aK t=b:=⟨_,rfl⟩;have bC:=af hok;clear hok
 cases bo with
 |false=>
  go_enter Tryz.func73,Tryz.ntmps73
  go_wp2_with fail
  refine(bV _ t _ HT.out).mono ?_;rw[bC.out];rintro e w1 ⟨rfl,hb1⟩;go_wp2;go_ret;exact⟨aG (ng t s0 p (by rw[bC.out];simp)).symm,(aQ.out.quiet hb1).below⟩
 |true=>
  obtain⟨bi,hsi⟩:∃b,ig s0=b:=⟨_,rfl⟩;have En:=af hsi;clear hsi
  cases bi with
  |false=>
   go_enter Tryz.func73,Tryz.ntmps73
   go_wp2_with fail
   refine(bV _ t _ HT.out).mono ?_;rw[bC.out];rintro e w1 ⟨rfl,hb1⟩
   go_wp2_with fail
   refine(dH s0 _).mono ?_;rw[En.out];rintro e w2 ⟨rfl,rfl⟩;go_wp2;go_ret;exact⟨aG (ng t s0 p (by rw[En.out];simp)).symm,(aQ.out.quiet hb1).below⟩
  |true=>
   obtain⟨hs0,hs1⟩:=(aU s0).1 En.out;obtain⟨s,rfl⟩:=bI hs0;go_enter Tryz.func73,Tryz.ntmps73
   go_wp2_with fail
   refine(bV _ t _ HT.out).mono ?_;rw[bC.out];rintro e w1 ⟨rfl,hb1⟩;have S1:=aQ.out.quiet hb1;have bG:=af S1;clear S1 hb1
   go_wp2_with fail
   refine(dH s _).mono ?_;rw[En.out];rintro e w2 ⟨rfl,rfl⟩
   by_cases Qk:n≤40
   case neg=>
    go_wp2;go_ret;exact⟨aG (ng t s p (by rw[HL.out];omega)).symm,bG.out.below⟩
   have HY:=af (Ah t s p bC.out En.out (by rw[HL.out];exact Qk));rw[dD] at HY;have gU:=af (aJ t bC.out).2.2.2;go_wp2
   go_loopw [24,1] (fun i sv wr=>∃(k s':Nat),k≤n∧i= .int .i64 k∧sv= .int .i64 s'∧s'<32∧Hid (kT t s (p.take k)=some s')∧St w wr [ah w.heap.size 26 #[.int .i64 t.start,.slice G gn gc,.slice G' n' c']]) (fun i _ _=>n-(intOf i).toNat)
   case atStart=>exact⟨0,s,by omega,rfl,rfl,by omega,af rfl,bG.out⟩
   case round=>
    obtain⟨k,s',hk,rfl,rfl,hs',hrun,M⟩:=hrel
    by_cases hlt:k<n
    ·obtain⟨b,off,x,rfl,hb,hx,hwx,hc⟩:=hp.get hlt;have hcr:wr.cell? ⟨b,off+k,none⟩=some (.int .i64 x):=(aC M.below b _ hb).trans hc;have q0:=M.cells 0 rfl;have HBAD:=af (fun h=>(HY.out.trans (congrArg opt (JM t s p k x hx s' hrun.out h)):aF t s p= -1));have Um:=af (yZ t s p k x hx s' hrun.out);have HM:=af M;clear hx hc M
     by_cases hx0:x<0
     ·have HF:=af (HBAD.out (zo t s' x (by omega)));go_wp2;go_ret;exact⟨aG HF.out.symm,HM.out.below⟩
     obtain⟨m,rfl⟩:=bI (show 0≤x by omega)
     by_cases hm:m<n'
     case neg=>
      have HF:=af (HBAD.out (zo t s' m (by rw[fF.out];omega)));go_wp2;go_ret;exact⟨aG HF.out.symm,HM.out.below⟩
     obtain⟨b',off',d,rfl,hb',hd,hda⟩:=hds.get hm;obtain⟨An,nn,cn,p0,p1,p2,p3,bW,hnn,-⟩:=hda;have r0:wr.cell? ⟨b',off'+m*4,none⟩=some (.slice An nn cn):=(aC HM.out.below b' _ hb').trans p0;have r1:wr.cell? ⟨b',off'+m*4+1,none⟩=some (.int .i64 d.on):=(aC HM.out.below b' _ hb').trans p1;have r2:wr.cell? ⟨b',off'+m*4+2,none⟩=some (.int .i64 d.off):=(aC HM.out.below b' _ hb').trans p2;have r3:wr.cell? ⟨b',off'+m*4+3,none⟩=some (.int .i64 d.flip):=(aC HM.out.below b' _ hb').trans p3;have iq:=gU.out d (bU hd);have HAT:=af (Ky t s' m d hd);have J8:=af bW;have HDK:=af iq;clear p0 p1 p2 p3 bW hd iq;obtain⟨oo,hoo⟩:∃o,aX d s'=o:=⟨_,rfl⟩;have Un:=af hoo;clear hoo
     go_wp2_with fail
     refine(mF An nn cn d s' _ (J8.out.up HM.out.below) HDK.out hs').mono ?_;rw[Un.out];rintro e w3 ⟨rfl,hb3⟩;have M3:=HM.out.quiet hb3;have BA:=af M3;clear M3 hb3 q0 r0 r1 r2 r3 hcr
     cases oo with
     |none=>
      have HF:=af (HBAD.out (HAT.out.trans Un.out));simp only[opt];go_wp2;go_ret;exact⟨aG HF.out.symm,BA.out.below⟩
     |some s2=>
      have hs2:=gu d s' s2 HDK.out hs' Un.out;simp only[opt];go_wp2
      go_roundw
      case rel=>exact⟨k+1,s2,by omega,by go_num,rfl,hs2,af (Um.out.trans (HAT.out.trans Un.out)),BA.out⟩
      case measure=>simp[intOf];omega
    ·have hkn:k=n:=by omega
     have HF:Hid (aF t s p=s'):=af (by
      have h1:=hrun.out;rw[hkn,←HL.out,List.take_length] at h1
      rw[HY.out,h1];rfl)
     have HM:=af M;clear M hkn;go_wp2;go_ret;exact⟨aG HF.out.symm,HM.out.below⟩
theorem jh (v:Value) (t:aB) (s0:Int) (A:Option Addr) (n c:Nat) (p:List Int) (w:World) (h:nI w w.heap.size v t) (hp:iO .i64 w w.heap.size A n c p):
  Calls Tryz.prog 67 #[v,.int .i64 s0,.slice A n c] w fun e w'=>e= .returned (.int .i64 (aF t s0 p))∧Below w.heap.size w w':=by
 have h':=h;obtain⟨G,gn,gc,G',n',c',rfl,hg,hgs,hds,hst⟩:=h;have S0:=(St.refl w).alloc #[.int .i64 t.start,.slice G gn gc,.slice G' n' c'] 26;have HT:=af (h'.up S0.below);have aQ:=af S0;have hl:=hp.len;have hcap:=hp.cap;have hcm:=hp.bZ
 unfold maxLen at hcm
 have HL:=af hl;have hdl:=hds.len;have fF:=af hdl;clear S0 hl hdl h';obtain⟨bo,hok⟩:∃b,aK t=b:=⟨_,rfl⟩;have bC:=af hok;clear hok
 cases bo with
 |false=>
  go_enter Tryz.func67,Tryz.ntmps67
  go_wp2_with fail
  refine(bP _ t _ HT.out).mono ?_;rw[bC.out];rintro e w1 ⟨rfl,hb1⟩;go_wp2;go_ret;exact⟨aG (ng t s0 p (by rw[bC.out];simp)).symm,(aQ.out.quiet hb1).below⟩
 |true=>
  obtain⟨bi,hsi⟩:∃b,ig s0=b:=⟨_,rfl⟩;have En:=af hsi;clear hsi
  cases bi with
  |false=>
   go_enter Tryz.func67,Tryz.ntmps67
   go_wp2_with fail
   refine(bP _ t _ HT.out).mono ?_;rw[bC.out];rintro e w1 ⟨rfl,hb1⟩
   go_wp2_with fail
   refine(lZ s0 0 31 _ (by have:=(vg s0).1 En.out;omega)).mono ?_;rintro e w2 ⟨rfl,rfl⟩;go_wp2;go_ret;exact⟨aG (ng t s0 p (by rw[En.out];simp)).symm,(aQ.out.quiet hb1).below⟩
  |true=>
   obtain⟨hs0,hs1⟩:=(aU s0).1 En.out;obtain⟨s,rfl⟩:=bI hs0;go_enter Tryz.func67,Tryz.ntmps67
   go_wp2_with fail
   refine(bP _ t _ HT.out).mono ?_;rw[bC.out];rintro e w1 ⟨rfl,hb1⟩;have S1:=aQ.out.quiet hb1;have bG:=af S1;clear S1 hb1
   go_wp2_with fail
   refine(fB s 0 31 _ (by omega) (by omega)).mono ?_;rintro e w2 ⟨rfl,rfl⟩
   by_cases Qk:n≤40
   case neg=>
    go_wp2;go_ret;exact⟨aG (ng t s p (by rw[HL.out];omega)).symm,bG.out.below⟩
   have HY:=af (Ah t s p bC.out En.out (by rw[HL.out];exact Qk));rw[dD] at HY;have gU:=af (aJ t bC.out).2.2.2;have oq:n'≤6:=by rw[←fF.out];exact(aJ t bC.out).2.2.1
   go_wp2
   go_loopw [7,1] (fun i sv wr=>∃(k s':Nat),k≤n∧i= .int .i64 k∧sv= .int .i64 s'∧s'<32∧Hid (kT t s (p.take k)=some s')∧St w wr [ah w.heap.size 26 #[.int .i64 t.start,.slice G gn gc,.slice G' n' c']]) (fun i _ _=>n-(intOf i).toNat)
   case atStart=>exact⟨0,s,by omega,rfl,rfl,by omega,af rfl,bG.out⟩
   case round=>
    obtain⟨k,s',hk,rfl,rfl,hs',hrun,M⟩:=hrel
    by_cases hlt:k<n
    ·obtain⟨b,off,x,rfl,hb,hx,hwx,hc⟩:=hp.get hlt;have hcr:wr.cell? ⟨b,off+k,none⟩=some (.int .i64 x):=(aC M.below b _ hb).trans hc;have q0:=M.cells 0 rfl;have HBAD:=af (fun h=>(HY.out.trans (congrArg opt (JM t s p k x hx s' hrun.out h)):aF t s p= -1));have Um:=af (yZ t s p k x hx s' hrun.out);have HM:=af M;clear hx M
     by_cases hxm:0≤x∧x<n'
     case neg=>
      have HF:=af (HBAD.out (zo t s' x (by rw[fF.out];exact hxm)));have HC:=af (fun w=>lZ x 0 ((n':Int)-1) w (by omega));clear hxm
      go_upto_region 6 with(fail)
      go_quiet ((go_at_call 125;with_reducible exact oK (HC.out _)))
      go_wp2;go_ret;exact⟨aG HF.out.symm,HM.out.below.trans (below_drewN (ai _ _) _)⟩
     obtain⟨hx0,hxm⟩:=hxm;obtain⟨m,rfl⟩:=bI hx0;have hm:m<n':=by omega
     have HC:=af (fun w=>fB (m:Int) 0 ((n':Int)-1) w (by omega) (by omega));obtain⟨b',off',d,rfl,hb',hd,hda⟩:=hds.get hm;obtain⟨An,nn,cn,p0,p1,p2,p3,bW,hnn,-⟩:=hda;have iq:=gU.out d (bU hd);have HAT:=af (Ky t s' m d hd);have J8:=af bW;have HDK:=af iq;clear bW hd iq;obtain⟨oo,hoo⟩:∃o,aX d s'=o:=⟨_,rfl⟩;have Un:=af hoo;clear hoo
     go_upto_region 6 with(fail)
     go_quiet ((go_at_call 125;with_reducible exact oK (HC.out _)))
     go_upto_region 8 with(fail)
     refine kS (σ:=Nat)
      (fun s i=>match i with
       |0=>.pointer (some ⟨w.heap.size,2,none⟩)
       |1=>.slice (some ⟨b',off',none⟩) n' c'
       |2=>.slice (some ⟨b,off,none⟩) n c
       |3=>.int .i64 k
       |4=>.pointer (some ⟨b,(off+k),none⟩)
       |5=>.int .i64 m
       |6=>.pointer (some ⟨b',(off'+m*4),none⟩)
       |7=>.agg #[.slice An nn cn,.int .i64 d.on,.int .i64 d.off,.int .i64 d.flip]
       |8=>.int .i64 s'
       |9=>.int .i64 (opt (aX d s'))
       |10=>.int .i64 (opt (aX d s'))
       |_=>undef)
      (fun D s wx=>Sn w wx fun i=>match i with
       |0=>some (ah w.heap.size 26 #[.int .i64 t.start,.slice G gn gc,.slice (some ⟨b',off',none⟩) n' c'])
       |_=>none)
      0 ?_ ?_ ?_
     ·intro D hD;refine((Sn.eY HM.out).quiet ((below_drewN (ai _ _) _).drew)).congr fun i=>?_
      match i with
      |0=>rfl
      |q+1=>rfl
     ·refine Cs (fun D s wx hR _ hd _ _ hs K hK=>?_) ?_
      ·have e3:=hs.o 3 (.pointer (some ⟨w.heap.size,0,none⟩));clear hs;go_simp;exact hK s wx sv hR
      refine Cs (fun D s wx hR _ hd _ _ hs K hK=>?_) ?_
      ·have e37:=hs.v 0 37 hd;clear hs;have qk:=(hR.blk 0 rfl).cell;go_simp;exact hK s wx sv hR
      refine Cs (fun D s wx hR _ hd _ _ hs K hK=>?_) ?_
      ·have e2:=hs.o 2 (.slice (some ⟨b,off,none⟩) n c);clear hs;go_simp;exact hK s wx sv hR
      refine Cs (fun D s wx hR _ hd _ _ hs K hK=>?_) ?_
      ·have e7:=hs.o 7 (.int .i64 k);clear hs;go_simp;exact hK s wx sv hR
      refine Cs (fun D s wx hR _ hd _ _ hs K hK=>?_) ?_
      ·have e39:=hs.v 2 39 hd;have e40:=hs.v 3 40 hd;clear hs;go_simp;exact hK s wx sv hR
      refine Cs (fun D s wx hR _ hd _ _ hs K hK=>?_) ?_
      ·have e41:=hs.v 4 41 hd;clear hs;have c0:wx.cell? ⟨b,off+k,none⟩=some (.int .i64 m):=(aC hR.below b _ hb).trans hc;go_simp;exact hK s wx sv hR
      refine Cs (fun D s wx hR _ hd _ _ hs K hK=>?_) ?_
      ·have e38:=hs.v 1 38 hd;have e42:=hs.v 5 42 hd;clear hs;go_simp;exact hK s wx sv hR
      refine Cs (fun D s wx hR _ hd _ _ hs K hK=>?_) ?_
      ·have e43:=hs.v 6 43 hd;clear hs;have r0:wx.cell? ⟨b',off'+m*4,none⟩=some (.slice An nn cn):=(aC hR.below b' _ hb').trans p0;have r1:wx.cell? ⟨b',off'+m*4+1,none⟩=some (.int .i64 d.on):=(aC hR.below b' _ hb').trans p1;have r2:wx.cell? ⟨b',off'+m*4+2,none⟩=some (.int .i64 d.off):=(aC hR.below b' _ hb').trans p2;have r3:wx.cell? ⟨b',off'+m*4+3,none⟩=some (.int .i64 d.flip):=(aC hR.below b' _ hb').trans p3;go_simp;exact hK s wx sv hR
      refine Cs (fun D s wx hR hDi hd hsh _ hs K hK=>?_) ?_
      ·have m10:D 10=false:=hsh.no hDi 10 rfl ⟨8,.phase⟩ (by simp) rfl rfl;have e1:=hs.before 10 1 (u:=.int .i64 s') rfl m10 (by kernel_rfl) rfl;clear hs;go_simp;exact hK s wx sv hR
      refine Cs (fun D s wx hR _ hd _ _ hs K hK=>?_) ?_
      ·have e44:=hs.v 7 44 hd;have e45:=hs.v 8 45 hd;have g44:=aZ e44;have g45:=aZ e45;clear hs;go_simp;refine(um An nn cn d s' _ (J8.out.up hR.below) HDK.out hs').mono ?_;rintro e w3 ⟨rfl,hb3⟩;exact hK s w3 sv (hR.quiet hb3)
      refine Cs (fun D s wx hR _ hd _ _ hs K hK=>?_) ?_
      ·have e46:=hs.v 9 46 hd;clear hs;go_simp;exact hK s wx sv hR
      exact au.nil
     ·intro D s wx hR hD;simp only[eG,Act.put,aO,aS,aV];have M3:St w wx [ah w.heap.size 26 #[.int .i64 t.start,.slice G gn gc,.slice (some ⟨b',off',none⟩) n' c']]:=hR.fO [0] (by decide) rfl;rw[Un.out];have BA:=af M3;clear M3 hR hD q0 hcr hc p0 p1 p2 p3
      cases oo with
      |none=>
       have HF:=af (HBAD.out (HAT.out.trans Un.out));simp only[opt];go_wp2;go_ret;exact⟨aG HF.out.symm,BA.out.below⟩
      |some s2=>
       have hs2:=gu d s' s2 HDK.out hs' Un.out;simp only[opt];go_wp2
       go_roundw
       case rel=>exact⟨k+1,s2,by omega,by go_num,rfl,hs2,af (Um.out.trans (HAT.out.trans Un.out)),BA.out⟩
       case measure=>simp[intOf];omega
    ·have hkn:k=n:=by omega
     have HF:Hid (aF t s p=s'):=af (by
      have h1:=hrun.out;rw[hkn,←HL.out,List.take_length] at h1
      rw[HY.out,h1];rfl)
     have HM:=af M;clear M hkn;go_wp2;go_ret;exact⟨aG HF.out.symm,HM.out.below⟩
def OwnB (w:World) (v:Value) (b:aI) (F:List Nat):Prop:=
 ∃gv dv ev Ft Fd,v= .agg #[.int .i64 b.order.start,gv,dv,ev,.int .i64 b.state]∧mY w 0 (.agg #[.int .i64 b.order.start,gv,dv]) b.order Ft∧jP w 0 ev b.done Fd∧b.done.length≤1048576∧(Lit.int .i64 b.state).wf=true∧F=Ft++Fd∧F.Nodup
def bF (v:Value) (b:aI):dW where
 at_ w F:=OwnB w v b F
 keep w w' F h hk:=by
  obtain⟨gv,dv,ev,Ft,Fd,e,h1,h2,h3,h4,rfl,h5⟩:=h;exact⟨gv,dv,ev,Ft,Fd,e,h1.keep fun b hb=>hk b (List.mem_append_left _ hb),h2.keep fun b hb=>hk b (List.mem_append_right _ hb),h3,h4,rfl,h5⟩
 lt w F h b hb:=by
  obtain⟨gv,dv,ev,Ft,Fd,e,h1,h2,h3,h4,rfl,h5⟩:=h
  rcases List.mem_append.1 hb with hb | hb
  ·exact(h1.lt b hb).2
  ·exact(h2.lt b hb).2
 nd w F h:=by obtain⟨gv,dv,ev,Ft,Fd,e,h1,h2,h3,h4,rfl,h5⟩:=h;exact h5
def VU (b:aI):Nat:=NE b.order+b.done.length
section
variable {w W W' : World} {L : List dW}
theorem St.book {s st:Int} {gv dv ev:Value} {goal done:List Int} {ds:List aj} (h:St w W (oI (.agg #[.int .i64 s,gv,dv]) ⟨s,goal,ds⟩::aA ev done::L)) (hd:done.length≤1048576) (hs:(Lit.int .i64 st).wf=true):
  St w W (bF (.agg #[.int .i64 s,gv,dv,ev,.int .i64 st]) ⟨⟨s,goal,ds⟩,done,st⟩::L):=
 h.join fun F G h1 h2 hn hlo=>⟨gv,dv,ev,F,G,rfl,h1.1,h2,hd,hs,rfl,hn⟩
theorem OwnB.rd {v:Value} {b:aI} {F:List Nat} (h:OwnB W v b F):RdB W W.heap.size v b:=by
 obtain⟨gv,dv,ev,Ft,Fd,rfl,h1,h2,h3,h4,rfl,h5⟩:=h;obtain⟨A,n,c,A',n',c',e,a1,a2,a3,a4⟩:=h1.rd;obtain⟨A2,c2,rfl,b1⟩:=h2.rd;simp only[Value.agg.injEq,Array.mk.injEq,List.cons.injEq,and_true,true_and] at e;obtain⟨rfl,rfl⟩:=e;exact⟨A,n,c,A',n',c',A2,_,c2,rfl,a1,a2,a3,a4,b1,h3,h4⟩
theorem St.G7 (S:St w W L) (i:Nat) {v:Value} {b:aI} (hi:L[i]? =some (bF v b)):RdB W W.heap.size v b:=by
 obtain⟨F,h,-⟩:=S.get i hi;exact h.rd
theorem Sn.G7 {M:Nat→Option dW} (h:Sn w W M) (k:Nat) {v:Value} {b:aI} (hk:M k=some (bF v b)):RdB W W.heap.size v b:=by
 obtain⟨F,h1,-⟩:=h.get k hk;exact h1.rd
theorem sV.form {M B:Nat} {v:Value} {b:aI} (h:sV M w B v b):∃A n c A' n' c' A2 n2 c2,v= .agg #[.int .i64 b.order.start,.slice A n c,.slice A' n' c',.slice A2 n2 c2,.int .i64 b.state]:=by
 obtain⟨A,n,c,A',n',c',A2,n2,c2,e,-⟩:=h;exact⟨A,n,c,A',n',c',A2,n2,c2,e⟩
theorem St.gW (S:St w W L) (i:Nat) {v:Value} {b:aI} (hi:L[i]? =some (bF v b)):∃A n c A' n' c' A2 n2 c2,v= .agg #[.int .i64 b.order.start,.slice A n c,.slice A' n' c',.slice A2 n2 c2,.int .i64 b.state]:=(S.G7 i hi).form
theorem sV.order {M B:Nat} {s st:Int} {x y z:Value} {b:aI} (h:sV M w B (.agg #[.int .i64 s,x,y,z,.int .i64 st]) b):pU M w B (.agg #[.int .i64 s,x,y]) b.order:=by
 obtain⟨A,n,c,A',n',c',A2,n2,c2,e,h1,h2,h3,h4,h5,h6,h7⟩:=h;simp only[Value.agg.injEq,Array.mk.injEq,List.cons.injEq,Value.int.injEq,true_and,and_true] at e;obtain⟨rfl,rfl,rfl,rfl,rfl⟩:=e;exact⟨A,n,c,A',n',c',rfl,h1,h2,h3,h4⟩
theorem sV.done {M B:Nat} {s st:Int} {x y:Value} {A:Option Addr} {n c:Nat} {b:aI} (h:sV M w B (.agg #[.int .i64 s,x,y,.slice A n c,.int .i64 st]) b):iO .i64 w B A n c b.done∧n≤M∧(Lit.int .i64 b.state).wf=true∧st=b.state∧s=b.order.start:=by
 obtain⟨A,n,c,A',n',c',A2,n2,c2,e,h1,h2,h3,h4,h5,h6,h7⟩:=h;simp only[Value.agg.injEq,Array.mk.injEq,List.cons.injEq,Value.int.injEq,true_and,and_true,Value.slice.injEq] at e;obtain⟨rfl,-,-,⟨rfl,rfl,rfl⟩,rfl⟩:=e;exact⟨h5,h6,h7,rfl,rfl⟩
theorem sV.less {M M' B:Nat} {v:Value} {b:aI} (h:sV M w B v b) (hs:VU b≤M'):sV M' w B v b:=by
 unfold VU at hs
 obtain⟨A,n,c,A',n',c',A2,n2,c2,e,h1,h2,h3,h4,h5,h6,h7⟩:=h;have ht:pU M w B (.agg #[.int .i64 b.order.start,.slice A n c,.slice A' n' c']) b.order:=⟨A,n,c,A',n',c',rfl,h1,h2,h3,h4⟩;obtain⟨A,n,c,A',n',c',e',h1,h2,h3,h4⟩:=ht.less (M':=M') (by omega);simp only[Value.agg.injEq,Array.mk.injEq,List.cons.injEq,Value.int.injEq,true_and,and_true,Value.slice.injEq] at e';obtain⟨⟨rfl,rfl,rfl⟩,rfl,rfl,rfl⟩:=e'
 have:=h5.len
 exact⟨_,_,_,_,_,_,A2,n2,c2,e,h1,h2,h3,h4,h5,by omega,h7⟩
end
def AP (b:aI):Nat:=mkT b.order+b.done.length
def uF (k:Nat) (b:aI):aI:=⟨markT k b.order,marks (k+mkT b.order) b.done.length,b.state⟩
theorem YK (b:aI):AP b≤4*VU b:=by unfold AP VU;have:=Zg b.order;omega
theorem wC {M:Nat} (hM:M≤9223372036854775807) (v:Value) (b:aI) (left:Int) (w:World) (h:sV M w w.heap.size v b) (h0:0≤left) (h1:left≤1048576):
  Calls Tryz.prog 17 #[v,.int .i64 left] w fun e w'=>e= .returned (.int .i64 (less left (VU b)))∧Below w.heap.size w w':=by
 obtain⟨A,n,c,A',n',c',A2,n2,c2,hv⟩:=h.form;subst hv;obtain⟨hdn,hdl,-⟩:=h.done;have hl:=hdn.len;have S0:=(St.refl w).alloc #[.int .i64 b.order.start,.slice A n c,.slice A' n' c',.slice A2 n2 c2,.int .i64 b.state] 42;have ht:=h.order.up S0.below;have aQ:=af S0;have HL:Hid (VU b=NE b.order+n2):=af (by unfold VU;rw[hl]);clear S0 hl
 by_cases hn:((NE b.order:Nat):Int)≤left
 ·go_enter Tryz.func17,Tryz.ntmps17
  go_wp2_with fail
  refine(Dh hM _ b.order left _ ht h0 h1).mono ?_;rw[iR hn];rintro e w1 ⟨rfl,hb1⟩;have S1:=aQ.out.quiet hb1;have q1:=S1.cells 0 rfl;have HB:=af S1.below;clear S1 hb1
  generalize NE b.order=z at*
  go_wp2_with fail
  refine(o5 A2 n2 c2 (left-z) _ (by omega) (by omega) (by omega)).mono ?_
  by_cases h2:(n2:Int)≤left-z
  ·rw[iR h2];rintro e w2 ⟨rfl,rfl⟩;go_wp2;go_ret;exact⟨aG (by rw[HL.out,iR (by omega)];omega),HB.out⟩
  ·rw[iZ h2];rintro e w2 ⟨rfl,rfl⟩;go_wp2;go_ret;exact⟨aG (by rw[HL.out,iZ (by omega)]),HB.out⟩
 ·go_enter Tryz.func17,Tryz.ntmps17
  go_wp2_with fail
  refine(Dh hM _ b.order left _ ht h0 h1).mono ?_;rw[iZ (show¬((NE b.order:Nat):Int)≤left by omega)];rintro e w1 ⟨rfl,hb1⟩;go_wp2;go_ret;exact⟨aG (by rw[HL.out,iZ (by omega)]),(aQ.out.quiet hb1).below⟩
theorem uX (v:Value) (b:aI) (w:World) (h:RdB w w.heap.size v b):Calls Tryz.prog 20 #[v] w (Gives w id fun v'=>[bF v' b]):=by
 obtain⟨A,n,c,A',n',c',A2,n2,c2,hv⟩:=h.form;subst hv;obtain⟨hdn,hdl,hst,-⟩:=h.done;have hl:=hdn.len
 have S0:St w (((w.alloc (Obj.cells #[.int .i64 b.order.start,.slice A n c,.slice A' n' c',.slice A2 n2 c2,.int .i64 b.state] 42)).alloc (Obj.cells #[.int .i64 0,.slice none 0 0,.slice none 0 0,.slice none 0 0,.int .i64 0] 28)).alloc (Obj.cells #[.int .i64 0,.slice none 0 0,.slice none 0 0,.slice none 0 0,.int .i64 0] 28))
   [ah w.heap.size 42 #[.int .i64 b.order.start,.slice A n c,.slice A' n' c',.slice A2 n2 c2,.int .i64 b.state],ah (w.heap.size+1) 28 #[.int .i64 0,.slice none 0 0,.slice none 0 0,.slice none 0 0,.int .i64 0],ah (w.heap.size+2) 28 #[.int .i64 0,.slice none 0 0,.slice none 0 0,.slice none 0 0,.int .i64 0]]:=by
  have:=(((St.refl w).alloc #[.int .i64 b.order.start,.slice A n c,.slice A' n' c',.slice A2 n2 c2,.int .i64 b.state] 42).alloc #[.int .i64 0,.slice none 0 0,.slice none 0 0,.slice none 0 0,.int .i64 0] 28).alloc #[.int .i64 0,.slice none 0 0,.slice none 0 0,.slice none 0 0,.int .i64 0] 28
  simpa using this
 have ht:=h.order.up S0.below;have HT:=af ht;have HD:=af hdn;have aQ:=af S0;clear S0 ht;go_enter Tryz.func20,Tryz.ntmps20
 go_wp2_with fail
 refine(QO _ b.order _ HT.out).mono ?_;rintro e w1 ⟨v1,rfl,s1⟩;obtain⟨B,m,d,B',m',d',hv1⟩:=s1.XP 0 rfl;subst hv1;have S1:=aQ.out.call s1;have q0:=S1.cells 0 rfl;have q1:=S1.cells 2 rfl;have f1:=S1.free 2 rfl
 have S2:St w (((w1.setCell ⟨w.heap.size+2,0,none⟩ (.int .i64 b.order.start)).setCell ⟨w.heap.size+2,1,none⟩ (.slice B m d)).setCell ⟨w.heap.size+2,2,none⟩ (.slice B' m' d'))
  [ah w.heap.size 42 #[.int .i64 b.order.start,.slice A n c,.slice A' n' c',.slice A2 n2 c2,.int .i64 b.state],ah (w.heap.size+1) 28 #[.int .i64 0,.slice none 0 0,.slice none 0 0,.slice none 0 0,.int .i64 0],
   ah (w.heap.size+2) 28 #[.int .i64 b.order.start,.slice B m d,.slice B' m' d',.slice none 0 0,.int .i64 0],oI (.agg #[.int .i64 b.order.start,.slice B m d,.slice B' m' d']) b.order]:=((S1.set 2 rfl 0 _).set 2 rfl 1 _).set 2 rfl 2 _
 have HS:=af S2;clear S1 S2 s1 aQ HT
 go_wp2_with fail
 refine(QS A2 n2 c2 b.done _ (HD.out.up HS.out.below) hdl).mono ?_;rintro e w2 ⟨v2,rfl,s2⟩;obtain⟨C,d2,hv2,-⟩:=s2.xq 0 rfl;rw[hl] at hv2;subst hv2;have S3:=HS.out.call s2;have q2:=S3.cells 0 rfl;have q3:=S3.cells 1 rfl;have q4:=S3.cells 2 rfl;have f3:=S3.free 1 rfl;have f4:=S3.free 2 rfl;have dV:=af S3;clear q0 q1 f1 HS S3 s2;go_wp2;refine bodyPost_ret (v:=.agg #[.int .i64 b.order.start,.slice B m d,.slice B' m' d',.slice C n2 d2,.int .i64 b.state]) (by simp[results,Tryz.results20,go_sem,q3]) rfl ⟨_,rfl,?_⟩;have S4:=((((((dV.out.set 2 rfl 3 (.slice C n2 d2)).set 2 rfl 4 (.int .i64 b.state)).set 1 rfl 0 (.int .i64 b.order.start)).set 1 rfl 1 (.slice B m d)).set 1 rfl 2 (.slice B' m' d')).set 1 rfl 3 (.slice C n2 d2)).set 1 rfl 4 (.int .i64 b.state);exact(S4.pick (L':=[oI (.agg #[.int .i64 b.order.start,.slice B m d,.slice B' m' d']) b.order,aA (.slice C n2 d2) b.done]) [3,4] (by decide) rfl rfl).book (by omega) hst
theorem pY (v:Value) (b:aI) (v':Value) (w:World) (h:RdB w w.heap.size v b) (h':RdB w w.heap.size v' b):
  Calls Tryz.prog 23 #[v,v'] w fun e w'=>e= .returned (.bool true)∧Below w.heap.size w w':=by
 obtain⟨A,n,c,A',n',c',A2,n2,c2,hv⟩:=h.form;subst hv;obtain⟨B,m,d,B',m',d',B2,m2,d2,hv⟩:=h'.form;subst hv;obtain⟨hdn,hdl,-⟩:=h.done;obtain⟨WB,afk,-⟩:=h'.done
 have S0:St w ((w.alloc (Obj.cells #[.int .i64 b.order.start,.slice A n c,.slice A' n' c',.slice A2 n2 c2,.int .i64 b.state] 28)).alloc (Obj.cells #[.int .i64 b.order.start,.slice B m d,.slice B' m' d',.slice B2 m2 d2,.int .i64 b.state] 28))
   [ah w.heap.size 28 #[.int .i64 b.order.start,.slice A n c,.slice A' n' c',.slice A2 n2 c2,.int .i64 b.state],ah (w.heap.size+1) 28 #[.int .i64 b.order.start,.slice B m d,.slice B' m' d',.slice B2 m2 d2,.int .i64 b.state]]:=by
  have:=((St.refl w).alloc #[.int .i64 b.order.start,.slice A n c,.slice A' n' c',.slice A2 n2 c2,.int .i64 b.state] 28).alloc #[.int .i64 b.order.start,.slice B m d,.slice B' m' d',.slice B2 m2 d2,.int .i64 b.state] 28
  simpa using this
 have HT:=af (h.order.up S0.below);have HT':=af (h'.order.up S0.below);have aQ:=af S0;clear S0;go_enter Tryz.func23,Tryz.ntmps23
 go_wp2_with fail
 refine(Kz _ b.order _ _ HT.out HT'.out).mono ?_;rintro e w1 ⟨rfl,hb1⟩;have S1:=aQ.out.quiet hb1;have q0:=S1.cells 0 rfl;have q1:=S1.cells 1 rfl;have bG:=af S1;clear S1 hb1
 go_wp2_with fail
 refine(KA A2 n2 c2 b.done B2 m2 d2 _ (hdn.up bG.out.below) (WB.up bG.out.below)).mono ?_;rintro e w2 ⟨rfl,hb2⟩;have S2:=bG.out.quiet hb2;have q2:=S2.cells 0 rfl;have q3:=S2.cells 1 rfl;have HS2:=af S2;clear S2 hb2 q0 q1;go_wp2;go_ret;exact⟨rfl,HS2.out.below⟩
theorem mY.Iq {v:Value} {t:aB} {F F':List Nat} {w:World} (h1:mY w 0 v t F) (g1:mY w 0 v t F'):F'=F:=by
 obtain⟨gv,dv,Fg,Fd,cells,Fs,e1,a1,a2,a3,a4,a5⟩:=h1;obtain⟨gv',dv',Fg',Fd',cells',Fs',e1',b1,b2,b3,b4,b5⟩:=g1;rw[e1] at e1';simp only[Value.agg.injEq,Array.mk.injEq,List.cons.injEq,and_true,true_and] at e1';obtain⟨rfl,rfl⟩:=e1';have hc:cells'=cells:=BN b3.row a3.row;have hg:Fg'=Fg:=by rw[b1.foot,a1.foot]
 subst hc hg
 have hfs:Fs'=Fs:=by
  refine List.ext_getElem? fun j=>?_
  by_cases hj:j<t.ax.length
  ·have x1:Fs'[j]? =some (Fs'[j]'(by rw[b3.qF];exact hj)):=bD _;have x2:Fs[j]? =some (Fs[j]'(by rw[a3.qF];exact hj)):=bD _;obtain⟨n1,q1,_,_,_,q2,_⟩:=b3.deed j _ _ (bD hj) x1;obtain⟨n2,r1,_,_,_,r2,_⟩:=a3.deed j _ _ (bD hj) x2;rw[q1] at r1
   injection r1 with r1
   subst r1;rw[x1,x2,q2.foot,r2.foot]
  ·rw[List.getElem?_eq_none (by rw[b3.qF];omega),List.getElem?_eq_none (by rw[a3.qF];omega)]
 subst hfs;rw[b4,a4,b3.foot,a3.foot]
theorem OwnB.Iq {v:Value} {b:aI} {F F':List Nat} {w:World} (h1:OwnB w v b F) (g1:OwnB w v b F'):F'=F:=by
 obtain⟨gv,dv,ev,Ft,Fd,rfl,h1,h2,h3,h4,rfl,h5⟩:=h1;obtain⟨gv',dv',ev',Ft',Fd',e,g1,g2,g3,g4,rfl,g5⟩:=g1;simp only[Value.agg.injEq,Array.mk.injEq,List.cons.injEq,and_true,true_and] at e;obtain⟨rfl,rfl,rfl⟩:=e;rw[h1.Iq g1,g2.foot,h2.foot]
theorem Ir (v:Value) (b:aI) (F:List Nat) (k:Nat) (w:World) (h:OwnB w v b F) (hk:k+AP b≤1099511627776):
  Calls Tryz.prog 25 #[v,.int .i64 k] w fun e w'=>e= .returned (.int .i64 (k+AP b:Nat))∧OwnB w' v (uF k b) F∧Only F w w':=by
 obtain⟨gv,dv,ev,Ft,Fd,rfl,h1,h2,h3,h4,rfl,h5⟩:=h;obtain⟨A,n,c,A',n',c',e,a1,a2,a3,a4⟩:=h1.rd;obtain⟨A2,c2,rfl,b1⟩:=h2.rd;simp only[Value.agg.injEq,Array.mk.injEq,List.cons.injEq,and_true,true_and] at e;obtain⟨rfl,rfl⟩:=e;have hn1:=(List.nodup_append.1 h5).1;have hdis:∀x∈Ft,x∉Fd:=fun x hx hy=>(List.nodup_append.1 h5).2.2 x hx x hy rfl
 have adu:=h1.lt;have adv:=h2.lt
 unfold AP at hk
 have ho1:=h1.below ((ai w.heap.size w).alloc (ay _) (Obj.cells #[.int .i64 b.order.start,.slice A n c,.slice A' n' c',.slice A2 b.done.length c2,.int .i64 b.state] 28));have ho2:=h2.below ((ai w.heap.size w).alloc (ay _) (Obj.cells #[.int .i64 b.order.start,.slice A n c,.slice A' n' c',.slice A2 b.done.length c2,.int .i64 b.state] 28));have kb:=iJ.new w 28 #[.int .i64 b.order.start,.slice A n c,.slice A' n' c',.slice A2 b.done.length c2,.int .i64 b.state];have hba:Below w.heap.size w (w.alloc (Obj.cells #[.int .i64 b.order.start,.slice A n c,.slice A' n' c',.slice A2 b.done.length c2,.int .i64 b.state] 28)):=(ai w.heap.size w).alloc (ay _) _;have HM:Hid (k+AP b=k+mkT b.order+b.done.length):=af (by unfold AP;omega)
 generalize hM:mkT b.order=M at*
 have rV:=af hM;clear hM;go_enter Tryz.func25,Tryz.ntmps25
 go_wp2_with fail
 refine(H7 0 _ b.order Ft k _ ho1 hn1 (by rw[rV.out];omega)).mono ?_;rintro e w1 ⟨rfl,o1,on1⟩;rw[rV.out];have hs1:=on1.size;simp only[World.size_alloc] at hs1;have kb1:iJ w1 w.heap.size 28 _:=(on1.block w.heap.size (by simp) (fun hx=>Nat.lt_irrefl _ (adu _ hx).2)).trans kb;have o2:=ho2.keep (w':=w1) fun x hx=>on1.block x (by have:=(adv x hx).2;simp;omega) (fun hy=>hdis x hy hx)
 have q1:∀j,w1.cell? ⟨w.heap.size,j,none⟩=_:=kb1.cell;have HO1:=af o1;clear ho1 ho2 kb o1
 go_wp2_with fail
 refine(rC 0 _ b.done Fd (k+M) w1 o2 (by omega) h3).mono ?_;rintro e w2 ⟨rfl,o3,on2⟩;go_wp2;go_ret;have on:Only (Ft++Fd) w w2:=((Only.of_below hba).trans (on1.sub fun x hx=>List.mem_append_left _ hx)).trans (on2.sub fun x hx=>List.mem_append_right _ hx);refine⟨aG (by have:=HM.out;omega),⟨_,_,_,Ft,Fd,rfl,HO1.out.keep fun x hx=>on2.block x (by have:=(HO1.out.lt x hx).2;exact this) (hdis x hx),?_,by simp[uF];exact h3,h4,rfl,h5⟩,on⟩;simp only[uF,rV.out];exact o3
theorem zK {w W:World} {L:List dW} (S:St w W L) (i:Nat) {v:Value} {b:aI} (hi:L[i]? =some (bF v b)) (k:Nat) (hk:k+AP b≤1099511627776):
  Calls Tryz.prog 25 #[v,.int .i64 k] W (fun e W'=>e= .returned (.int .i64 (k+AP b:Nat))∧St w W' (L.set i (bF v (uF k b)))):=by
 obtain⟨F,h1,-⟩:=S.get i hi
 exact(Ir v b F k W h1 hk).mono fun e W' ⟨he,ho,hon⟩=>⟨he,S.mod i hi fun F' g1 glo=>by
  have:=h1.Iq g1
  subst this
  exact⟨F',ho,fun b hb=>.inl hb,hon⟩⟩
theorem xw (v:Value) (k:Nat) (b:aI) (w:World) (h:RdB w w.heap.size v (uF k b)) (hk:k+AP b≤1099511627776):
  Calls Tryz.prog 27 #[v,.int .i64 k] w fun e w'=>e= .returned (.int .i64 (k+AP b:Nat))∧Below w.heap.size w w':=by
 obtain⟨A,n,c,A',n',c',A2,n2,c2,hv⟩:=h.form;subst hv;obtain⟨hdn,hdl,hst,-⟩:=h.done;have S0:=(St.refl w).alloc #[.int .i64 (uF k b).order.start,.slice A n c,.slice A' n' c',.slice A2 n2 c2,.int .i64 (uF k b).state] 28;have HT:=af (h.order.up S0.below);have hl:=hdn.len;simp only[uF,qL] at hl;have WB:iO .i64 w w.heap.size A2 n2 c2 (marks (k+mkT b.order) n2):=by have h0:=hdn;simp only[uF] at h0;rw[hl] at h0;exact h0
 have HD:=af WB;have aQ:=af S0;have hM2:k+mkT b.order+n2≤1099511627776:=by unfold AP at hk;omega
 have HM:Hid (k+AP b=k+mkT b.order+n2):=af (by unfold AP;omega);clear S0 hdn WB hst hl hk h
 generalize (uF k b).order.start=s0 at*
 generalize (uF k b).state=s1 at*
 generalize hM:mkT b.order=M at*
 have rV:=af hM;clear hM;go_enter Tryz.func27,Tryz.ntmps27
 go_wp2_with fail
 refine(H8 _ k b.order _ HT.out (by rw[rV.out];omega)).mono ?_;rintro e w1 ⟨rfl,hb1⟩;rw[rV.out];have S1:=aQ.out.quiet hb1;have q0:=S1.cells 0 rfl;have bG:=af S1;clear S1 hb1
 go_wp2_with fail
 refine(rD A2 n2 c2 (k+M) _ (HD.out.up bG.out.below) (by omega) (by omega)).mono ?_;rintro e w2 ⟨rfl,rfl⟩;go_wp2;go_ret;exact⟨aG (by have:=HM.out;omega),bG.out.below⟩
end Go.Proofs.YtkmcengmglgdeaaGreatDoor
