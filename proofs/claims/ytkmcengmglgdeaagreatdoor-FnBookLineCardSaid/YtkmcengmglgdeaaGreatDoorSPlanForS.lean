/- Joined texts: PlanForS, Rest, Iso, Acts. -/
import Derived.Test.YtkmcengmglgdeaaGreatDoorSPlanForW
import Derived.Test.YtkmcengmglgdeaaGreatDoorSBValid
import Derived.Test.YtkmcengmglgdeaaGreatDoorSPerm

namespace Go.Proofs.YtkmcengmglgdeaaGreatDoor
set_option linter.unusedVariables false
set_option linter.unusedSimpArgs false
set_option maxRecDepth 100000
set_option maxHeartbeats 8000000
open Go.ChangeShapes Go.WideShapes Go.ChangeAt Go.RowKit
theorem sS (v:Value) (t:aB) (w:World) (h:oW w w.heap.size v t):
  Calls Tryz.prog 104 #[v] w (Gives w (fun v=>.tuple #[v,.bool (dG t).isSome]) fun v=>[ax v ((dG t).getD [])]):=by
 have h':=h;obtain⟨G,gn,gc,G',n',c',rfl,hg,hgs,hds,hst⟩:=h;have HT:=af h';have Bf:=af hds;have gy:=af hds.len;obtain⟨bo,hok⟩:∃b,aK t=b:=⟨_,rfl⟩;have bG:=af hok;clear hok hds h' hg
 have Lh:Hid (∀g,g=w.heap.size+1→St w ((w.alloc (.cells #[.int .i64 t.start,.slice G gn gc,.slice G' n' c'] 26)).alloc (.cells #[] 3)) [ah w.heap.size 26 #[.int .i64 t.start,.slice G gn gc,.slice G' n' c'],ax (.slice (some ⟨g,0,none⟩) 0 0) []]):=
  af fun g hg=>by subst hg;exact((St.refl w).alloc #[.int .i64 t.start,.slice G gn gc,.slice G' n' c'] 26).call (St.yA _ _ (by simp))
 have aS:=af (Lh.out _ rfl);clear Lh
 cases bo with
 |false=>
  have Og:=Bx.mk (DN t bG.out);have zB:=Bx.mk (uM t bG.out);go_enter Tryz.func104,Tryz.ntmps104
  go_wp2_with fail
  refine(tN _ t _ (HT.out.up aS.out.below)).mono ?_;rw[zB.out];rintro e w1 ⟨sv,rfl,s1⟩;obtain⟨A1,c1,hv,-⟩:=s1.uj 0 rfl;subst hv;have bf:=af (aS.out.call s1);clear s1;simp only[List.length_nil];go_wp2;refine bodyPost_ret (v:=.tuple #[.slice (some ⟨w.heap.size+1,0,none⟩) 0 0,.bool false]) (by simp[results,Tryz.results104,go_sem]) rfl ⟨.slice (some ⟨w.heap.size+1,0,none⟩) 0 0,by rw[Og.out];rfl,?_⟩;rw[Og.out];exact bf.out.pick [1] (by decide) rfl rfl
 |true=>
  obtain⟨hs0,qB,pz,iL⟩:=aJ t bG.out;obtain⟨s0,wH⟩:=bC hs0.1;have gQ:=af iL;have mG:s0<32:=by omega
  have UE:=Bx.mk (Bg t bG.out s0 wH);have HSY:=Bx.mk (tV t bG.out);obtain⟨plan,DR⟩:∃plan,(dG t).getD []=plan:=⟨_,rfl⟩;have BO:=Bx.mk DR;rw[DR];have yF:n'≤6:=by rw[←gy.out];exact pz
  obtain⟨p,hp⟩:∃p,aH t.goal=p:=⟨_,rfl⟩;rw[hp] at UE HSY;clear iL qB DR hs0 pz hp;rw[wH] at aS HT ⊢
  go_enter Tryz.func104,Tryz.ntmps104
  go_wp2_with fail
  refine(tN _ t _ (HT.out.up aS.out.below)).mono ?_;rw[HSY.out];rintro e w1 ⟨sv,rfl,s1⟩;have fH:Hid (St w w1 [ah w.heap.size 26 #[.int .i64 s0,.slice G gn gc,.slice G' n' c'],ax sv (fJ t.ay p),ax (.slice (some ⟨w.heap.size+1,0,none⟩) 0 0) []]):=af ((aS.out.call s1).pick [0,2,1] (by decide) rfl rfl);clear s1;obtain⟨g,sc,hsv⟩:=fH.out.Lj 1 rfl (jD _ _) (by omega);subst hsv;have q4:=fH.out.cells 0 rfl;obtain⟨hc0,-⟩:=fH.out.oK 1 rfl (jD _ _) s0 _ (mD t.ay p s0 mG);have hbd:=Qe t.ay p s0;clear aS HSY
  by_cases hneg:jc t.ay p s0<0
  ·have Og:Bx (dG t=none):=Bx.mk (by rw[UE.out,if_pos hneg]);obtain⟨u,hu⟩:∃u,jc t.ay p s0=u:=⟨_,rfl⟩;rw[hu] at hneg hc0;have Z7:Bx (([]:List Int)=plan):=Bx.mk (by rw[←BO.out,Og.out];rfl);clear hu hbd;go_wp2;refine bodyPost_ret (v:=.tuple #[.slice (some ⟨w.heap.size+1,0,none⟩) 0 0,.bool false]) (by simp[results,Tryz.results104,go_sem]) rfl ⟨.slice (some ⟨w.heap.size+1,0,none⟩) 0 0,by rw[Og.out];rfl,?_⟩;rw[←Z7.out];exact fH.out.pick [2] (by decide) rfl rfl
  ·obtain⟨m0,hm0⟩:=bC (show 0≤jc t.ay p s0 by omega);have Oh:Bx (dG t=some (nR t.ay p m0 s0)):=Bx.mk (by rw[UE.out,if_neg hneg,hm0,bW]);have HW0:Bx (([]:List Int)++nR t.ay p m0 s0=plan):=Bx.mk (by rw[←BO.out,Oh.out];rfl);have CQ:=Bx.mk hm0
   have UF:m0≤31:=by
    have:=IX (S:=p) gQ.out mG
    omega
   rw[hm0] at hc0;clear hneg hm0 hbd UE;go_wp2
   go_loopw [6,4] (fun sv pv wr=>∃(s m:Nat) (pre:List Int) (x4:Value),x4=pv∧sv= .int .i64 s∧s<32∧Bx (jc t.ay p s=(m:Int))∧pre.length+m≤31∧Bx (pre++nR t.ay p m s=plan)∧St w wr [ah w.heap.size 26 #[.int .i64 s0,.slice G gn gc,.slice G' n' c'],ax (.slice (some ⟨g,0,none⟩) 32 sc) (fJ t.ay p),ax x4 pre]) (fun sv _ _=>(jc t.ay p (intOf sv).toNat).toNat)
   case atStart=>exact⟨s0,m0,[],_,rfl,rfl,mG,CQ,by simpa using UF,HW0,fH.out⟩
   case round=>
    clear CQ HW0 fH hc0 UF q4;obtain⟨s,m,pre,x4,rfl,rfl,hs,HV,hml,HW,M⟩:=hrel;have HM:=af M;obtain⟨hcs,-⟩:=M.oK 1 rfl (jD _ _) s _ (mD t.ay p s hs);rw[HV.out] at hcs;clear M
    rcases Nat.eq_zero_or_pos m with hm | hm
    ·subst hm;have HE:Hid (pre=plan):=af (by have:=HW.out;simpa[nR] using this);go_wp2;refine bodyPost_ret (v:=.tuple #[x4,.bool true]) (by simp[results,Tryz.results104,go_sem]) rfl ⟨x4,by rw[Oh.out];rfl,?_⟩;rw[←HE.out];exact HM.out.pick [2] (by decide) rfl rfl
    ·obtain⟨r,rfl⟩:∃r,m=r+1:=⟨m-1,by omega⟩;have UG:Hid ((jc t.ay p s).toNat=r+1):=af (sU HV.out);go_wp2
     go_loopw [7,6,4] (fun i sv pv wr=>∃j:Nat,.int .i64 s=sv∧x4=pv∧j≤n'∧i= .int .i64 j∧Bx (pick (near t.ay p r) s (t.ay.drop j) j=pick (near t.ay p r) s t.ay 0)∧St w wr [ah w.heap.size 26 #[.int .i64 s0,.slice G gn gc,.slice G' n' c'],ax (.slice (some ⟨g,0,none⟩) 32 sc) (fJ t.ay p),ax x4 pre]) (fun i _ _ _=>n'-(intOf i).toNat)
     case atStart=>exact⟨0,rfl,rfl,by omega,rfl,Bx.mk (by rw[List.drop_zero]),HM.out⟩
     case round=>
      clear HM hcs;obtain⟨j,rfl,rfl,hj,rfl,HP,M⟩:=hrel;have HM:=af M;have q0:=M.cells 0 rfl;clear M
      by_cases hlt:j<n'
      ·obtain⟨b,off,d,rfl,hb,hd,hda⟩:=Bf.out.get hlt;obtain⟨An,nn,cn,p0,p1,p2,p3,dU,hnn,-⟩:=hda;have r0:wr.cell? ⟨b,off+j*4,none⟩=some (.slice An nn cn):=(aF HM.out.below b _ hb).trans p0;have r1:wr.cell? ⟨b,off+j*4+1,none⟩=some (.int .i64 d.on):=(aF HM.out.below b _ hb).trans p1;have r2:wr.cell? ⟨b,off+j*4+2,none⟩=some (.int .i64 d.off):=(aF HM.out.below b _ hb).trans p2;have r3:wr.cell? ⟨b,off+j*4+3,none⟩=some (.int .i64 d.flip):=(aF HM.out.below b _ hb).trans p3;have NE:=af (gQ.out d (bT hd));have HDK:=af hd;have Ll:=af dU;obtain⟨o,ho⟩:∃o,bD d s=o:=⟨_,rfl⟩;have HO:=af ho;have Fe:Hid ((s:Int)<32):=af (by omega);have HSQ:Hid ((fJ t.ay p)[s]? =some ((r:Int)+1)):=af (by rw[mD t.ay p s hs,HV.out];rfl);clear p0 p1 p2 p3 dU hd ho
       go_wp2_with fail
       refine(uN An nn cn d s _ (Ll.out.up HM.out.below) NE.out hs).mono ?_;rw[HO.out];rintro e w3 ⟨rfl,hb3⟩;have Oi:=af (HM.out.quiet hb3);clear hb3 q0 r0 r1 r2 r3
       cases o with
       |none=>
        have Oj:=Bx.mk ((GI (f:=near t.ay p r) HDK.out HO.out).trans HP.out);simp only[opt]
        go_upto_region 11 with(fail)
        refine kG (σ:=Unit)
         (fun s0' i=>match i with
          |0=>.int .i64 (-1)
          |1=>.bool false
          |2=>.bool false
          |13=>.bool false
          |_=>undef)
         (fun D s0' wx=>Sn w wx fun i=>match i with
          |0=>some (ah w.heap.size 26 #[.int .i64 s0,.slice G gn gc,.slice (some ⟨b,off,none⟩) n' c'])
          |1=>some (ax (.slice (some ⟨g,0,none⟩) 32 sc) (fJ t.ay p))
          |2=>some (ax x4 pre)
          |_=>none)
         () ?_ ?_ ?_
        ·intro D hD;refine((Sn.dN Oi.out).quiet ((ai _ _).drew)).congr fun i=>?_
         match i with
         |0 | 1 | 2=>rfl
         |i+3=>rfl
        ·refine Cs (fun D s0' wx hR _ hd _ _ hs K hK=>?_) ?_
         ·have e8:=hs.o 8 (.int .i64 (-1));clear hs;go_simp;exact hK s0' wx (fun _ _=>rfl) hR
         refine Cs (fun D s0' wx hR _ hd _ _ hs K hK=>?_) ?_
         ·have e45:=hs.v 0 45 hd;clear hs;go_simp;exact hK s0' wx (fun _ _=>rfl) hR
         refine Cs (fun D s0' wx hR _ hd _ _ hs K hK=>?_) ?_
         ·have e46:=hs.v 1 46 hd;clear hs;go_simp;exact hK s0' wx (fun _ _=>rfl) hR
         refine dJ (fun D s0' wx hR _ hd _ _ hs K hK=>?_) ?_
         ·refine hs.jb 2 47 true hd ?_;exact hK s0' wx (fun _ _=>rfl) hR
         refine dJ (fun D s0' wx hR _ hd _ _ hs K hK=>?_) ?_
         ·refine hs.jb 2 47 true hd ?_;exact hK s0' wx (fun _ _=>rfl) hR
         refine dJ (fun D s0' wx hR _ hd _ _ hs K hK=>?_) ?_
         ·refine hs.jb 2 47 true hd ?_;exact hK s0' wx (fun _ _=>rfl) hR
         refine dJ (fun D s0' wx hR _ hd _ _ hs K hK=>?_) ?_
         ·refine hs.jb 2 47 true hd ?_;exact hK s0' wx (fun _ _=>rfl) hR
         refine dJ (fun D s0' wx hR _ hd _ _ hs K hK=>?_) ?_
         ·refine hs.jb 2 47 true hd ?_;exact hK s0' wx (fun _ _=>rfl) hR
         refine dJ (fun D s0' wx hR _ hd _ _ hs K hK=>?_) ?_
         ·refine hs.jb 2 47 true hd ?_;exact hK s0' wx (fun _ _=>rfl) hR
         refine dJ (fun D s0' wx hR _ hd _ _ hs K hK=>?_) ?_
         ·refine hs.jb 2 47 true hd ?_;exact hK s0' wx (fun _ _=>rfl) hR
         refine dJ (fun D s0' wx hR _ hd _ _ hs K hK=>?_) ?_
         ·refine hs.jb 2 47 true hd ?_;exact hK s0' wx (fun _ _=>rfl) hR
         refine dJ (fun D s0' wx hR _ hd _ _ hs K hK=>?_) ?_
         ·refine hs.jb 2 47 true hd ?_;exact hK s0' wx (fun _ _=>rfl) hR
         refine dJ (fun D s0' wx hR _ hd _ _ hs K hK=>?_) ?_
         ·refine hs.jb 2 47 true hd ?_;exact hK s0' wx (fun _ _=>rfl) hR
         refine Cs (fun D s0' wx hR _ hd _ _ hs K hK=>?_) ?_
         ·have e47:=hs.v 2 47 hd;have e57:=hs.v 12 57 hd;clear hs;go_simp;exact hK s0' wx (fun _ _=>rfl) hR
         exact aj.nil
        ·intro D s0' wx hR hD;simp only[eH,Act.put,aO,aU,aW];have HT2:Hid (St w wx [ah w.heap.size 26 #[.int .i64 s0,.slice G gn gc,.slice (some ⟨b,off,none⟩) n' c'],ax (.slice (some ⟨g,0,none⟩) 32 sc) (fJ t.ay p),ax x4 pre]):=af (hR.eG [0,1,2] (by decide) rfl);clear hR hD;go_wp2
         go_roundw
         case rel=>exact⟨j+1,rfl,rfl,by omega,by go_num,Oj,HT2.out⟩
         case measure=>simp[intOf];omega
       |some q=>
        have hq:=iy d s q NE.out hs HO.out;have HQI:Hid ((q:Int)<32):=af (by omega);have HWR:Hid (IntKind.i64.wrap (r:Int)=(r:Int)):=af (by rw[IntKind.wrap_i64];omega);obtain⟨vq,hvq⟩:∃vq,jc t.ay p q=vq:=⟨_,rfl⟩;have HQ:Hid ((fJ t.ay p)[q]? =some vq):=af (by rw[mD t.ay p q hq,hvq]);obtain⟨bv,hbv⟩:∃bv,(vq == (r:Int))=bv:=⟨_,rfl⟩;have HBV:=af hbv;have HNR:Hid (near t.ay p r q=bv):=af (by unfold near;rw[hvq,hbv]);have HVQ:=Bx.mk hvq;clear hvq hbv;simp only[opt]
        go_upto_region 11 with(fail)
        refine kG (σ:=Unit)
         (fun s0' i=>match i with
          |0=>.int .i64 (q:Int)
          |1=>.bool true
          |2=>.bool true
          |3=>.slice (some ⟨g,0,none⟩) 32 sc
          |4=>.int .i64 (q:Int)
          |5=>.pointer (some ⟨g,q,none⟩)
          |6=>.int .i64 vq
          |7=>.slice (some ⟨g,0,none⟩) 32 sc
          |8=>.int .i64 (s:Int)
          |9=>.pointer (some ⟨g,s,none⟩)
          |10=>.int .i64 ((r:Int)+1)
          |11=>.int .i64 (r:Int)
          |12=>.bool bv
          |13=>.bool bv
          |_=>undef)
         (fun D s0' wx=>Sn w wx fun i=>match i with
          |0=>some (ah w.heap.size 26 #[.int .i64 s0,.slice G gn gc,.slice (some ⟨b,off,none⟩) n' c'])
          |1=>some (ax (.slice (some ⟨g,0,none⟩) 32 sc) (fJ t.ay p))
          |2=>some (ax x4 pre)
          |_=>none)
         () ?_ ?_ ?_
        ·intro D hD;refine((Sn.dN Oi.out).quiet ((ai _ _).drew)).congr fun i=>?_
         match i with
         |0 | 1 | 2=>rfl
         |i+3=>rfl
        ·refine Cs (fun D s0' wx hR _ hd _ _ hs K hK=>?_) ?_
         ·have e8:=hs.o 8 (.int .i64 (q:Int));clear hs;go_simp;exact hK s0' wx (fun _ _=>rfl) hR
         refine Cs (fun D s0' wx hR _ hd _ _ hs K hK=>?_) ?_
         ·have e45:=hs.v 0 45 hd;clear hs;go_simp;exact hK s0' wx (fun _ _=>rfl) hR
         refine Cs (fun D s0' wx hR _ hd _ _ hs K hK=>?_) ?_
         ·have e46:=hs.v 1 46 hd;clear hs;go_simp;exact hK s0' wx (fun _ _=>rfl) hR
         refine dJ (fun D s0' wx hR _ hd _ _ hs K hK=>?_) ?_
         ·refine hs.yes 2 47 true hd ?_;have e5:=hs.o 5 (.slice (some ⟨g,0,none⟩) 32 sc);clear hs;go_simp;exact hK s0' wx (fun _ _=>rfl) hR
         refine dJ (fun D s0' wx hR _ hd _ _ hs K hK=>?_) ?_
         ·refine hs.yes 2 47 true hd ?_;have e8:=hs.o 8 (.int .i64 (q:Int));clear hs;go_simp;exact hK s0' wx (fun _ _=>rfl) hR
         refine dJ (fun D s0' wx hR _ hd _ _ hs K hK=>?_) ?_
         ·refine hs.yes 2 47 true hd ?_;have e48:=hs.v 3 48 hd;have e49:=hs.v 4 49 hd;clear hs;have hqI:=HQI.out;go_simp;exact hK s0' wx (fun _ _=>rfl) hR
         refine dJ (fun D s0' wx hR _ hd _ _ hs K hK=>?_) ?_
         ·refine hs.yes 2 47 true hd ?_;have e50:=hs.v 5 50 hd;clear hs;have cq:wx.cell? ⟨g,q,none⟩=some (.int .i64 vq):=(hR.oK 1 rfl (jD _ _) q _ HQ.out).1;go_simp;exact hK s0' wx (fun _ _=>rfl) hR
         refine dJ (fun D s0' wx hR _ hd _ _ hs K hK=>?_) ?_
         ·refine hs.yes 2 47 true hd ?_;have e5:=hs.o 5 (.slice (some ⟨g,0,none⟩) 32 sc);clear hs;go_simp;exact hK s0' wx (fun _ _=>rfl) hR
         refine dJ (fun D s0' wx hR _ hd _ _ hs K hK=>?_) ?_
         ·refine hs.yes 2 47 true hd ?_;have e6:=hs.o 6 (.int .i64 (s:Int));clear hs;go_simp;exact hK s0' wx (fun _ _=>rfl) hR
         refine dJ (fun D s0' wx hR _ hd _ _ hs K hK=>?_) ?_
         ·refine hs.yes 2 47 true hd ?_;have e52:=hs.v 7 52 hd;have e53:=hs.v 8 53 hd;clear hs;have hsI:=Fe.out;go_simp;exact hK s0' wx (fun _ _=>rfl) hR
         refine dJ (fun D s0' wx hR _ hd _ _ hs K hK=>?_) ?_
         ·refine hs.yes 2 47 true hd ?_;have e54:=hs.v 9 54 hd;clear hs;have cs:wx.cell? ⟨g,s,none⟩=some (.int .i64 ((r:Int)+1)):=(hR.oK 1 rfl (jD _ _) s _ HSQ.out).1;go_simp;exact hK s0' wx (fun _ _=>rfl) hR
         refine dJ (fun D s0' wx hR _ hd _ _ hs K hK=>?_) ?_
         ·refine hs.yes 2 47 true hd ?_;have e55:=hs.v 10 55 hd;clear hs;go_simp;rw[HWR.out];exact hK s0' wx (fun _ _=>rfl) hR
         refine dJ (fun D s0' wx hR _ hd _ _ hs K hK=>?_) ?_
         ·refine hs.yes 2 47 true hd ?_;have e51:=hs.v 6 51 hd;have e56:=hs.v 11 56 hd;clear hs;have hbv:=HBV.out;go_simp;exact hK s0' wx (fun _ _=>rfl) hR
         refine Cs (fun D s0' wx hR _ hd _ _ hs K hK=>?_) ?_
         ·have e47:=hs.v 2 47 hd;have e57:=hs.v 12 57 hd;clear hs;go_simp;exact hK s0' wx (fun _ _=>rfl) hR
         exact aj.nil
        ·intro D s0' wx hR hD;simp only[eH,Act.put,aO,aU,aW];have HT2:Hid (St w wx [ah w.heap.size 26 #[.int .i64 s0,.slice G gn gc,.slice (some ⟨b,off,none⟩) n' c'],ax (.slice (some ⟨g,0,none⟩) 32 sc) (fJ t.ay p),ax x4 pre]):=af (hR.eG [0,1,2] (by decide) rfl);clear hR hD
         cases bv with
         |false=>
          have Oj:=Bx.mk ((Lm (f:=near t.ay p r) HDK.out HO.out HNR.out).trans HP.out);go_wp2
          go_roundw
          case rel=>exact⟨j+1,rfl,rfl,by omega,by go_num,Oj,HT2.out⟩
          case measure=>simp[intOf];omega
         |true=>
          have HPK:=Bx.mk (HP.out.symm.trans (Lp (f:=near t.ay p r) HDK.out HO.out HNR.out));have HW2:=Bx.mk (GK HW.out HPK.out);have hvr:vq=(r:Int):=by simpa using HBV.out
          have YJ:Bx (jc t.ay p q=(r:Int)):=Bx.mk (HVQ.out.trans hvr);have nO:=af (HT2.out.qA 2 rfl)
          have Lr:Hid (∀v3 w3,w3.ownsRow 0 3 1 v3 (pre.length+1) (ints pre++[Value.int .i64 (j:Int)])→(wx.alloc (.cells #[.int .i64 (j:Int)] 3)).grownBy w3 x4.ownBlock→(v3.ownBlock=x4.ownBlock∨v3.ownBlock=some (wx.alloc (.cells #[.int .i64 (j:Int)] 3)).heap.size)→
            St w w3 [ah w.heap.size 26 #[.int .i64 s0,.slice G gn gc,.slice (some ⟨b,off,none⟩) n' c'],ax (.slice (some ⟨g,0,none⟩) 32 sc) (fJ t.ay p),ax v3 (pre++[(j:Int)])]):=
           af fun v3 w3 h1 h2 h3=>St.rY (v:=x4) (xs:=pre) (ys:=[(j:Int)]) ((HT2.out.alloc #[.int .i64 (j:Int)] 3).pick [0,1,2] (by decide) rfl rfl) 2 rfl rfl h1 (by intro y hy;simp at hy;subst hy;exact bU (by omega)) h2 h3
          have Ol:Hid ((jc t.ay p q).toNat=r):=af (sU YJ.out);clear hvr
          go_wp2_with (at_builtin;refine cZ iR rfl _ _ rfl 0 x4 pre.length (ints pre) rfl (nO.out.alloc _) _ _ 1 1 [.int .i64 (j:Int)] rfl (bJ.new wx [.int .i64 (j:Int)] 3 1 1 rfl (by unfold maxLen;omega)) (by simp[Value.oneCell']) (by omega) (by omega) (Nat.zero_le _) ?_;intro v3 w3 hown3 hg3 mJ;have jB:=af (Lr.out v3 w3 hown3 hg3 mJ))
          go_wp2
          go_roundw
          case rel=>exact⟨q,r,pre++[(j:Int)],v3,rfl,rfl,hq,YJ,by simp;omega,HW2,jB.out⟩
          case measure=>
           show(jc t.ay p q).toNat<(jc t.ay p s).toNat
           have h1:=UG.out;have h2:=Ol.out
           omega
      ·exact(GL gQ.out hs HV.out (by
       have:=HP.out
       rw[List.drop_of_length_le (by rw[gy.out];omega)] at this
       exact this.symm)).elim
def dD (b:aG):aB:=⟨b.state,b.order.goal,b.order.ay⟩
def dB (b:aG):Option (List Int):=if aN b then dG (dD b) else none
theorem xA (b:aG) (h:aN b=false):dB b=none:=if_neg (by rw[h];simp)
theorem oM (b:aG) (h:aN b=true):dB b=dG (dD b):=if_pos h
theorem BN.from_ {w:World} {B:Nat} {s st:Int} {x y z:Value} {b:aG} (h:BN 1048576 w B (.agg #[.int .i64 s,x,y,z,.int .i64 st]) b) (hst:st=b.state):uz 1048576 w B (.agg #[.int .i64 st,x,y]) (dD b):=by
 obtain⟨A,n,c,A',n',c',e,h1,h2,h3,h4⟩:=h.order;simp only[Value.agg.injEq,Array.mk.injEq,List.cons.injEq,and_true,true_and] at e;obtain⟨-,rfl,rfl⟩:=e;obtain⟨A2,n2,c2,A3,n3,c3,A4,n4,c4,e⟩:=h.form;simp only[Value.agg.injEq,Array.mk.injEq,List.cons.injEq,and_true,true_and] at e;obtain⟨-,-,-,rfl,-⟩:=e;subst hst;exact⟨A,n,c,A',n',c',rfl,h1,h2,h3,h.done.2.2.1⟩
theorem sO (s st:Int) (A:Option Addr) (n c:Nat) (A':Option Addr) (n' c':Nat) (A2:Option Addr) (n2 c2:Nat) (w:World):
  Calls Tryz.prog 70 #[.agg #[.int .i64 s,.slice A n c,.slice A' n' c',.slice A2 n2 c2,.int .i64 st]] w fun e w'=>e= .returned (.agg #[.int .i64 st,.slice A n c,.slice A' n' c'])∧Below w.heap.size w w':=by
 go_enter Tryz.func70,Tryz.ntmps70;go_wp2;refine bodyPost_ret (v:=.agg #[.int .i64 st,.slice A n c,.slice A' n' c']) (by simp[results,Tryz.results70,go_sem]) rfl ⟨rfl,?_⟩
 repeat' (first | with_reducible exact ai _ _ | with_reducible refine Below.setCell ?_ ?_ _ | with_reducible refine Below.alloc ?_ ?_ _)
 all_goals (simp;try omega)
theorem sJ (v:Value) (b:aG) (w:World) (h:RdB w w.heap.size v b):
  Calls Tryz.prog 15 #[v] w (Gives w (fun v=>.tuple #[v,.bool (dB b).isSome]) fun v=>[ax v ((dB b).getD [])]):=by
 have h':=h;obtain⟨A,n,c,A',n',c',A2,n2,c2,hv⟩:=h.form;subst hv;have S0:=(St.refl w).alloc #[.int .i64 b.order.start,.slice A n c,.slice A' n' c',.slice A2 n2 c2,.int .i64 b.state] 28;have HB:=af h';have aS:=af S0;clear S0 h h';obtain⟨bo,hok⟩:∃x,aN b=x:=⟨_,rfl⟩;have bG:=af hok;clear hok
 cases bo with
 |false=>
  have HN:=Bx.mk (xA b bG.out);go_enter Tryz.func15,Tryz.ntmps15
  go_wp2_with fail
  refine(dF _ b _ (HB.out.up aS.out.below)).mono ?_;rw[bG.out];rintro e w1 ⟨rfl,hb1⟩;have YI:=af (aS.out.quiet hb1).below;clear hb1;go_wp2;refine bodyPost_ret (v:=.tuple #[.slice none 0 0,.bool false]) (by simp[results,Tryz.results15,go_sem]) rfl ⟨.slice none 0 0,by rw[HN.out];rfl,?_⟩;rw[HN.out];exact iw w _ YI.out
 |true=>
  have HY:=Bx.mk (oM b bG.out);go_enter Tryz.func15,Tryz.ntmps15
  go_wp2_with fail
  refine(dF _ b _ (HB.out.up aS.out.below)).mono ?_;rw[bG.out];rintro e w1 ⟨rfl,hb1⟩;have bf:=af (aS.out.quiet hb1);have q1:=bf.out.cells 0 rfl;clear hb1
  go_wp2_with fail
  refine(sO b.order.start b.state A n c A' n' c' A2 n2 c2 _).mono ?_;rintro e w2 ⟨rfl,hb2⟩;have HS2:=af (bf.out.quiet hb2);clear hb2 q1
  go_wp2_with fail
  refine(o7 _ (dD b) _ ((HB.out.from_ rfl).up HS2.out.below)).mono ?_;rintro e w3 ⟨v3,rfl,s3⟩;have cu:=af (HS2.out.call s3);clear s3;go_wp2;refine bodyPost_ret (v:=.tuple #[v3,.bool (dG (dD b)).isSome]) (by simp[results,Tryz.results15,go_sem]) rfl ⟨v3,by rw[HY.out],?_⟩;rw[HY.out];exact cu.out.pick [1] (by decide) rfl rfl
theorem sQ (v:Value) (b:aG) (w:World) (h:RdB w w.heap.size v b):
  Calls Tryz.prog 53 #[v] w (Gives w (fun v=>.tuple #[v,.bool (dB b).isSome]) fun v=>[ax v ((dB b).getD [])]):=by
 have h':=h;obtain⟨A,n,c,A',n',c',A2,n2,c2,hv⟩:=h.form;subst hv;have S0:=(St.refl w).alloc #[.int .i64 b.order.start,.slice A n c,.slice A' n' c',.slice A2 n2 c2,.int .i64 b.state] 28;have HB:=af h';have aS:=af S0;clear S0 h h';obtain⟨bo,hok⟩:∃x,aN b=x:=⟨_,rfl⟩;have bG:=af hok;clear hok
 cases bo with
 |false=>
  have HN:=Bx.mk (xA b bG.out);go_enter Tryz.func53,Tryz.ntmps53
  go_wp2_with fail
  refine(dM _ b _ (HB.out.up aS.out.below)).mono ?_;rw[bG.out];rintro e w1 ⟨rfl,hb1⟩;have bf:=af ((aS.out.quiet hb1).call (St.yA w1 _ rfl));clear hb1;go_wp2;refine bodyPost_ret (v:=.tuple #[.slice (some ⟨w1.heap.size,0,none⟩) 0 0,.bool false]) (by simp[results,Tryz.results53,go_sem]) rfl ⟨.slice (some ⟨w1.heap.size,0,none⟩) 0 0,by rw[HN.out];rfl,?_⟩;rw[HN.out];exact bf.out.pick [1] (by decide) rfl rfl
 |true=>
  have HY:=Bx.mk (oM b bG.out);go_enter Tryz.func53,Tryz.ntmps53
  go_wp2_with fail
  refine(dM _ b _ (HB.out.up aS.out.below)).mono ?_;rw[bG.out];rintro e w1 ⟨rfl,hb1⟩;have bf:=af (aS.out.quiet hb1);have q1:=bf.out.cells 0 rfl;clear hb1
  go_wp2_with fail
  refine(sS _ (dD b) _ ((HB.out.from_ rfl).up bf.out.below)).mono ?_;rintro e w3 ⟨v3,rfl,s3⟩;have cu:=af (bf.out.call s3);clear s3;go_wp2;refine bodyPost_ret (v:=.tuple #[v3,.bool (dG (dD b)).isSome]) (by simp[results,Tryz.results53,go_sem]) rfl ⟨v3,by rw[HY.out],?_⟩;rw[HY.out];exact cu.out.pick [1] (by decide) rfl rfl
def acN (ds:List au) (S:Nat→Bool):Nat→Nat→Int
 |0,s=>if S s then 1 else 0
 |n+1,s=>(ds.map fun d=>match bD d s with
  |some s'=>acN ds S n s'
  |none=>0).sum
structure Iso (ds:List au) (g:au→au) (f:Nat→Nat):Prop where
 lt:∀s,s<32→f s<32
 WE:∀d∈ds,∀s,s<32→bD (g d) (f s)=(bD d s).map f
section
variable {ds : List au} {g : au → au} {f : Nat → Nat} {S T : Nat → Bool}
end
def lH (ds:List au) (S:Nat→Bool) (s:Nat):Bool:=(List.range 32).any fun s'=>S s'&&ds.any fun d=>bD d s' == some s
def lZ (ds:List au) (S:Nat→Bool):Nat→Nat→Bool
 |0,s=>S s
 |n+1,s=>lZ ds S n s||lH ds (lZ ds S n) s
section
variable {ds : List au} {g : au → au} {f : Nat → Nat} {S T : Nat → Bool}
theorem yY {s:Nat}:lH ds S s=true↔∃s',s'<32∧S s'=true∧∃d∈ds,bD d s'=some s:=by
 unfold lH
 simp only[List.any_eq_true,List.mem_range,Bool.and_eq_true,beq_iff_eq]
end
def dV (aa:List iP):List Int:=aa.flatMap fun a=>[a.kind,a.number]
theorem OJ (a:iP) (aa:List iP):dV (a::aa)=a.kind::a.number::dV aa:=rfl
theorem I8 (aa bs:List iP):dV (aa++bs)=dV aa++dV bs:=by simp[dV]
theorem Vf (aa:List iP) (i:Nat) (a:iP) (h:aa[i]? =some a):(dV aa)[i*2]? =some a.kind∧(dV aa)[i*2+1]? =some a.number:=by
 induction aa generalizing i with
 |nil=>simp at h
 |cons x aa ih=>
  rw[OJ]
  cases i with
  |zero=>simp at h;subst h;exact⟨rfl,rfl⟩
  |succ i=>
   simp only[List.getElem?_cons_succ] at h;obtain⟨h1,h2⟩:=ih i h;rw[show(i+1)*2=i*2+1+1 by omega];simp only[List.getElem?_cons_succ];exact⟨h1,h2⟩
def iG (v:Value) (aa:List iP):dh:=rRow 64 2 v aa.length (ints (dV aa))
def Zp (w:World) (B:Nat) (A:Option Addr) (n c:Nat) (aa:List iP):Prop:=aa.length=n∧bJ w B 2 A n c (ints (dV aa))
theorem Zp.get {w:World} {B n c i:Nat} {A:Option Addr} {aa:List iP} (h:Zp w B A n c aa) (hi:i<n):∃b off a,A=some ⟨b,off,none⟩∧b<B∧aa[i]? =some a∧w.cell? ⟨b,off+i*2,none⟩=some (.int .i64 a.kind)∧w.cell? ⟨b,off+i*2+1,none⟩=some (.int .i64 a.number):=by
 obtain⟨b,off,e,hb,hc⟩:=h.2.at_ (by omega);have hl:=h.1;have ha:aa[i]? =some (aa[i]'(by omega)):=bH _;obtain⟨h1,h2⟩:=Vf aa i _ ha;refine⟨b,off,_,e,hb,ha,hc (i*2) _ ?_,?_⟩
 ·unfold ints;rw[List.getElem?_map,h1];rfl
 ·rw[Nat.add_assoc];refine hc (i*2+1) _ ?_
  unfold ints;rw[List.getElem?_map,h2];rfl
theorem St.rdA {w W:World} {L:List dh} (h:St w W L) (i:Nat) {v:Value} {aa:List iP} (hi:L[i]? =some (iG v aa)):∃A c,v= .slice A aa.length c∧Zp W W.heap.size A aa.length c aa:=by
 obtain⟨A,c,hv,hr⟩:=h.oD i hi;exact⟨A,c,hv,rfl,hr⟩
theorem St.Xq {w W:World} {L:List dh} (h:St w W L) (i:Nat) {A:Option Addr} {n c:Nat} {aa:List iP} (hi:L[i]? =some (iG (.slice A n c) aa)):Zp W W.heap.size A n c aa:=by
 obtain⟨A',c',hv,hr⟩:=h.rdA i hi;simp only[Value.slice.injEq] at hv;obtain⟨rfl,rfl,rfl⟩:=hv;exact hr
def aaq (k n:Nat):List iP:=(List.range n).map fun i=>⟨((k+2*i:Nat):Int),((k+2*i+1:Nat):Int)⟩
def afg (k:Nat) (aa:List iP) (i:Nat):List iP:=aaq k i++aa.drop i
end Go.Proofs.YtkmcengmglgdeaaGreatDoor
