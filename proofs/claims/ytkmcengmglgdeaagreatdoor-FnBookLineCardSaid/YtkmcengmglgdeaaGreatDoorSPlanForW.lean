/- Joined texts: PlanForW, StatesBack, StepsLeast. -/
import Derived.Test.YtkmcengmglgdeaaGreatDoorSBack
import Derived.Test.YtkmcengmglgdeaaGreatDoorSCopy

namespace Go.Proofs.YtkmcengmglgdeaaGreatDoor
set_option linter.unusedVariables false
set_option linter.unusedSimpArgs false
set_option maxRecDepth 100000
set_option maxHeartbeats 8000000
open Go.ChangeShapes Go.WideShapes Go.ChangeAt Go.RowKit
theorem St.I7 {w W:World} {L:List dh} (h:St w W L) (i:Nat) {e:TypeId} {size n c:Nat} {A:Option Addr} {cells:List Value} (hi:L[i]? =some (rRow e size (.slice A n c) n cells)):bJ W W.heap.size size A n c cells:=by
 obtain⟨A',c',hv,hr⟩:=h.oD i hi;simp only[Value.slice.injEq,true_and] at hv;obtain⟨rfl,rfl⟩:=hv;exact hr
theorem Sn.oK {w W:World} {M:Nat→Option dh} (h:Sn w W M) (i:Nat) {g n c:Nat} {xs:List Int} (hi:M i=some (ax (.slice (some ⟨g,0,none⟩) n c) xs)) (hn:xs.length=n) (k:Nat) (x:Int) (hx:xs[k]? =some x):W.cell? ⟨g,k,none⟩=some (.int .i64 x)∧W.frozen? ⟨g,k,none⟩=false:=
 St.oK (h.eG [i] (by simp) (L:=[ax (.slice (some ⟨g,0,none⟩) n c) xs]) (by simp only[List.map,hi])) 0 rfl hn k x hx
theorem DN (t:aB) (h:aK t=false):dG t=none:=if_neg (by rw[h];simp)
theorem Bg (t:aB) (h:aK t=true) (s:Nat) (hs:t.start=(s:Int)):dG t=if jc t.ay (aH t.goal) s<0 then none else some (nR t.ay (aH t.goal) (jc t.ay (aH t.goal) s).toNat s):=by
 unfold dG Oz
 rw[if_pos h,hs,bW]
theorem zW {f:Nat→Bool} {s:Nat} {ds:List au} {j:Nat} {d:au} (hd:ds[j]? =some d):pick f s (ds.drop j) j=match bD d s with
  |some s'=>if f s' then some (j,s') else pick f s (ds.drop (j+1)) (j+1)
  |none=>pick f s (ds.drop (j+1)) (j+1):=by
 obtain⟨h1,h2⟩:=bI.1 hd;rw[List.drop_eq_getElem_cons h1,h2]
 rfl
theorem GI {f:Nat→Bool} {s:Nat} {ds:List au} {j:Nat} {d:au} (hd:ds[j]? =some d) (h:bD d s=none):pick f s (ds.drop (j+1)) (j+1)=pick f s (ds.drop j) j:=by rw[zW hd,h]
theorem Lm {f:Nat→Bool} {s q:Nat} {ds:List au} {j:Nat} {d:au} (hd:ds[j]? =some d) (h:bD d s=some q) (hf:f q=false):pick f s (ds.drop (j+1)) (j+1)=pick f s (ds.drop j) j:=by rw[zW hd,h];simp[hf]
theorem Lp {f:Nat→Bool} {s q:Nat} {ds:List au} {j:Nat} {d:au} (hd:ds[j]? =some d) (h:bD d s=some q) (hf:f q=true):pick f s (ds.drop j) j=some (j,q):=by rw[zW hd,h];simp[hf]
def near (ds:List au) (p:Nat→Bool) (m:Nat):Nat→Bool:=fun s'=>jc ds p s' == (m:Int)
theorem GK {ds:List au} {p:Nat→Bool} {m s j q:Nat} {pre plan:List Int} (h:pre++nR ds p (m+1) s=plan) (hp:pick (near ds p m) s ds 0=some (j,q)):(pre++[(j:Int)])++nR ds p m q=plan:=by
 rw[←h,List.append_assoc]
 congr 1
 show _=nR ds p (m+1) s
 unfold near at hp
 simp only[nR,hp]
 rfl
theorem GL {ds:List au} {p:Nat→Bool} {m s:Nat} (hd:∀d∈ds,bK d=true) (hs:s<32) (h:jc ds p s=((m+1:Nat):Int)) (hn:pick (near ds p m) s ds 0=none):False:=by
 obtain⟨d,hm,s',e,_,h1⟩:=GY hd hs h;obtain⟨j,s'',h2,-⟩:=GZ (f:=near ds p m) (s:=s) (ds:=ds) (k:=0) ⟨d,hm,s',e,by unfold near;simpa using h1⟩;rw[hn] at h2;cases h2
theorem Qe (ds:List au) (p:Nat→Bool) (s:Nat): -1≤jc ds p s∧jc ds p s≤32:=Qk (ds:=ds) (S:=p) (n:=32) (s:=s)
theorem sU {x:Int} {m:Nat} (h:x=(m:Int)):x.toNat=m:=by rw[h,bW]
theorem o7 (v:Value) (t:aB) (w:World) (h:oW w w.heap.size v t):
  Calls Tryz.prog 31 #[v] w (Gives w (fun v=>.tuple #[v,.bool (dG t).isSome]) fun v=>[ax v ((dG t).getD [])]):=by
 have h':=h;obtain⟨G,gn,gc,G',n',c',rfl,hg,hgs,hds,hst⟩:=h;have S0:=(St.refl w).alloc #[.int .i64 t.start,.slice G gn gc,.slice G' n' c'] 26;have HT:=af h';have HG:=af hg;have aS:=af S0;have gy:=af hds.len;clear S0 h' hg hds;obtain⟨bo,hok⟩:∃b,aK t=b:=⟨_,rfl⟩;have bG:=af hok;clear hok
 cases bo with
 |false=>
  have Og:=af (DN t bG.out);go_enter Tryz.func31,Tryz.ntmps31
  go_wp2_with fail
  refine(bZ _ t _ (HT.out.up aS.out.below)).mono ?_;rw[bG.out];rintro e w1 ⟨rfl,hb1⟩;have HB:=af (aS.out.quiet hb1).below;clear hb1;go_wp2;refine bodyPost_ret (v:=.tuple #[.slice none 0 0,.bool false]) (by simp[results,Tryz.results31,go_sem]) rfl ⟨.slice none 0 0,by rw[Og.out];rfl,?_⟩;rw[Og.out];exact iw w _ HB.out
 |true=>
  obtain⟨hs0,qB,pz,iL⟩:=aJ t bG.out;obtain⟨s0,wH⟩:=bC hs0.1;have gQ:=af iL;have UI:=af qB;have mG:s0<32:=by omega
  have UE:=Bx.mk (Bg t bG.out s0 wH);obtain⟨plan,DR⟩:∃plan,(dG t).getD []=plan:=⟨_,rfl⟩;have BO:=Bx.mk DR;rw[DR];obtain⟨N,hN⟩:∃N,lG t.goal=N:=⟨_,rfl⟩;have HN:=Bx.mk hN;have Ot:=Bx.mk (gV t.goal UI.out);have HN6:Hid (n'≤6):=af (by rw[←gy.out];exact pz);have yF:n'≤6:=HN6.out;clear iL qB DR hN hs0 pz;rw[wH] at aS ⊢
  go_enter Tryz.func31,Tryz.ntmps31
  go_wp2_with fail
  refine(bZ _ t _ (by rw[←wH];rw[←wH] at aS;exact HT.out.up aS.out.below)).mono ?_;rw[bG.out];rintro e w1 ⟨rfl,hb1⟩;have bf:=af (aS.out.quiet hb1);have q1:=bf.out.cells 0 rfl;clear hb1
  go_wp2_with fail
  refine(qU _ t _ (by have:=HT.out.up bf.out.below;rw[wH] at this;exact this) bG.out).mono ?_;rintro e w2 ⟨rv,rfl,s2⟩;have HS2:Hid (St w w2 [ah w.heap.size 26 #[.int .i64 s0,.slice G gn gc,.slice G' n' c'],pF rv t.ay]):=af (bf.out.call s2);clear q1 s2;obtain⟨RA,RC,YO,-⟩:=HS2.out.oD 1 rfl;rw[gy.out] at YO;subst YO;have q2:=HS2.out.cells 0 rfl
  go_wp2_with fail
  refine(ng G gn gc t.goal _ (HG.out.up HS2.out.below)).mono ?_;rw[Ot.out,HN.out];rintro e w3 ⟨rfl,hb3⟩;have cu:=af (HS2.out.quiet hb3);clear q2 hb3;have YP:Hid (∀W,St w W [ah w.heap.size 26 #[.int .i64 s0,.slice G gn gc,.slice G' n' c'],pF (.slice RA n' RC) t.ay]→bJ W W.heap.size 32 RA n' RC (ints (yI t.ay))):=af fun W h=>h.I7 (n:=n') 1 (by rw[←gy.out];rfl)
  go_wp2_with fail
  refine(FD RA n' RC t.ay (aH t.goal) N _ (YP.out _ cu.out) gy.out gQ.out yF HN.out.symm).mono ?_;rintro e w4 ⟨sv,rfl,s4⟩;have fH:Hid (St w w4 [ah w.heap.size 26 #[.int .i64 s0,.slice G gn gc,.slice G' n' c'],pF (.slice RA n' RC) t.ay,ax sv (fJ t.ay (aH t.goal))]):=af (cu.out.call s4);clear s4;obtain⟨g,sc,hsv⟩:=fH.out.Lj 2 rfl (jD _ _) (by omega);subst hsv;have q4:=fH.out.cells 0 rfl;obtain⟨ds,hds⟩:∃ds,t.ay=ds:=⟨_,rfl⟩;obtain⟨p,hp⟩:∃p,aH t.goal=p:=⟨_,rfl⟩;rw[hds,hp] at fH UE;rw[hds] at gy gQ;have HRR:Hid (∀W L,St w W (ah w.heap.size 26 #[.int .i64 s0,.slice G gn gc,.slice G' n' c']::pF (.slice RA n' RC) ds::L)→bJ W W.heap.size 32 RA n' RC (ints (yI ds))):=af fun W L h=>h.I7 (n:=n') 1 (by rw[←gy.out];rfl)
  obtain⟨hc0,-⟩:=fH.out.oK 2 rfl (jD _ _) s0 _ (mD ds p s0 mG);have hbd:=Qe ds p s0;clear cu HS2 bf aS HT HG Ot HN hds hp YP
  by_cases hneg:jc ds p s0<0
  ·have Og:Bx (dG t=none):=Bx.mk (by rw[UE.out,if_pos hneg]);obtain⟨u,hu⟩:∃u,jc ds p s0=u:=⟨_,rfl⟩;rw[hu] at hneg hc0;have Z7:Hid (([]:List Int)=plan):=af (by rw[←BO.out,Og.out];rfl);clear hu hbd;go_wp2;refine bodyPost_ret (v:=.tuple #[.slice none 0 0,.bool false]) (by simp[results,Tryz.results31,go_sem]) rfl ⟨.slice none 0 0,by rw[Og.out];rfl,?_⟩;rw[←Z7.out];exact iw w _ fH.out.below
  ·obtain⟨m0,hm0⟩:=bC (show 0≤jc ds p s0 by omega);have Oh:Bx (dG t=some (nR ds p m0 s0)):=Bx.mk (by rw[UE.out,if_neg hneg,hm0,bW]);have HW0:Bx (([]:List Int)++nR ds p m0 s0=plan):=Bx.mk (by rw[←BO.out,Oh.out];rfl);have CQ:=Bx.mk hm0
   have UF:m0≤31:=by
    have:=IX (S:=p) gQ.out mG
    omega
   rw[hm0] at hc0;have dX:Hid (St w w4 [ah w.heap.size 26 #[.int .i64 s0,.slice G gn gc,.slice G' n' c'],pF (.slice RA n' RC) ds,ax (.slice (some ⟨g,0,none⟩) 32 sc) (fJ ds p),ax (.slice none 0 0) []]):=af (fH.out.call (iw w4 w4 (ai _ _)));clear hneg hm0 hbd UE fH;go_wp2
   go_loopw [6,7] (fun sv pv wr=>∃(s m:Nat) (pre:List Int) (x7:Value),x7=pv∧sv= .int .i64 s∧s<32∧Bx (jc ds p s=(m:Int))∧pre.length+m≤31∧Bx (pre++nR ds p m s=plan)∧St w wr [ah w.heap.size 26 #[.int .i64 s0,.slice G gn gc,.slice G' n' c'],pF (.slice RA n' RC) ds,ax (.slice (some ⟨g,0,none⟩) 32 sc) (fJ ds p),ax x7 pre]) (fun sv _ _=>(jc ds p (intOf sv).toNat).toNat)
   case atStart=>exact⟨s0,m0,[],_,rfl,rfl,mG,CQ,by simpa using UF,HW0,dX.out⟩
   case round=>
    clear CQ HW0 dX hc0 UF q4;obtain⟨s,m,pre,x7,rfl,rfl,hs,HV,hml,HW,M⟩:=hrel;have HM:=af M;obtain⟨hcs,-⟩:=M.oK 2 rfl (jD _ _) s _ (mD ds p s hs);rw[HV.out] at hcs;clear M
    rcases Nat.eq_zero_or_pos m with hm | hm
    ·subst hm;have HE:Hid (pre=plan):=af (by have:=HW.out;simpa[nR] using this);go_wp2;refine bodyPost_ret (v:=.tuple #[x7,.bool true]) (by simp[results,Tryz.results31,go_sem]) rfl ⟨x7,by rw[Oh.out];rfl,?_⟩;rw[←HE.out];exact HM.out.pick [3] (by decide) rfl rfl
    ·obtain⟨r,rfl⟩:∃r,m=r+1:=⟨m-1,by omega⟩;have UG:Hid ((jc ds p s).toNat=r+1):=af (sU HV.out);go_wp2
     go_loopw [34,6,7] (fun i sv pv wr=>∃j:Nat,.int .i64 s=sv∧x7=pv∧j≤n'∧i= .int .i64 j∧Bx (pick (near ds p r) s (ds.drop j) j=pick (near ds p r) s ds 0)∧St w wr [ah w.heap.size 26 #[.int .i64 s0,.slice G gn gc,.slice G' n' c'],pF (.slice RA n' RC) ds,ax (.slice (some ⟨g,0,none⟩) 32 sc) (fJ ds p),ax x7 pre]) (fun i _ _ _=>n'-(intOf i).toNat)
     case atStart=>exact⟨0,rfl,rfl,by omega,rfl,Bx.mk (by rw[List.drop_zero]),HM.out⟩
     case round=>
      clear HM hcs;obtain⟨j,rfl,rfl,hj,rfl,HP,M⟩:=hrel;have HM:=af M;clear M
      by_cases hlt:j<n'
      ·obtain⟨b,off,d,hRA,hb,hdk,hrow⟩:=CS (HRR.out _ _ HM.out) gy.out hlt;subst hRA;have HDK:=af hdk;have P5:=af hrow;have NE:=af (gQ.out d (bT hdk));have HLEN:=af (gJ d);have hix:=uS d s hs;obtain⟨R,hR⟩:∃R,rowOf d=R:=⟨_,rfl⟩;obtain⟨o,ho⟩:∃o,bD d s=o:=⟨_,rfl⟩;have HOC:Hid (∀v∈R,v.oneCell'=true):=af (by rw[←hR];simp[rowOf,Value.oneCell']);have HO:=af ho;rw[hR] at P5 HLEN hix;rw[ho] at hix;have HRS:=af hix;have Oi:Hid (St w (wr.alloc (.cells R.toArray 108)) [ah w.heap.size 26 #[.int .i64 s0,.slice G gn gc,.slice G' n' c'],pF (.slice (some ⟨b,off,none⟩) n' RC) ds,ax (.slice (some ⟨g,0,none⟩) 32 sc) (fJ ds p),ax x7 pre,ah wr.heap.size 108 R.toArray]):=af (HM.out.alloc R.toArray 108);clear hrow hdk hR ho hix;have Fe:Hid ((s:Int)<32):=af (by omega);have HSQ:Hid ((fJ ds p)[s]? =some ((r:Int)+1)):=af (by rw[mD ds p s hs,HV.out];rfl)
       cases o with
       |none=>
        have Oj:=Bx.mk ((GI (f:=near ds p r) HDK.out HO.out).trans HP.out);have Qj:Hid (R.toArray[s]? =some (.int .i64 (-1))):=af (by simpa[opt] using HRS.out)
        go_upto_region 13 with(first
         | (refine iC 108 (.tmp 37) rfl rfl 3 32 qh b (off+j*32) R rfl (by rw[HLEN.out];exact kX) P5.out ?_)
         | (refine jO 108 (.tmp 9) (.tmp 38) rfl rfl _ R rfl rfl (by rw[HLEN.out];exact kX) (by rw[HLEN.out];rfl) HOC.out ?_))
        refine kG (σ:=Unit)
         (fun s0' i=>match i with
          |0=>.int .i64 (s:Int)
          |1=>.pointer (some ⟨wr.heap.size,s,none⟩)
          |2=>.int .i64 (-1)
          |3=>.bool false
          |4=>.bool false
          |17=>.bool false
          |_=>undef)
         (fun D s0' wx=>Sn w wx fun i=>match i with
          |0=>some (ah w.heap.size 26 #[.int .i64 s0,.slice G gn gc,.slice G' n' c'])
          |1=>some (pF (.slice (some ⟨b,off,none⟩) n' RC) ds)
          |2=>some (ax (.slice (some ⟨g,0,none⟩) 32 sc) (fJ ds p))
          |3=>some (ax x7 pre)
          |4=>some (ah wr.heap.size 108 R.toArray)
          |_=>none)
         () ?_ ?_ ?_
        ·intro D hD;refine((Sn.dN Oi.out).quiet ((ai _ _).drew)).congr fun i=>?_
         match i with
         |0 | 1 | 2 | 3 | 4=>rfl
         |i+5=>rfl
        ·refine Cs (fun D s0' wx hR _ hd _ _ hs K hK=>?_) ?_
         ·have e6:=hs.o 6 (.int .i64 (s:Int));clear hs;go_simp;exact hK s0' wx (fun _ _=>rfl) hR
         refine Cs (fun D s0' wx hR _ hd _ _ hs K hK=>?_) ?_
         ·have e9:=hs.o 9 (.pointer (some ⟨wr.heap.size,0,none⟩));have e39:=hs.v 0 39 hd;clear hs;have hsI:=Fe.out;go_simp;exact hK s0' wx (fun _ _=>rfl) hR
         refine Cs (fun D s0' wx hR _ hd _ _ hs K hK=>?_) ?_
         ·have e40:=hs.v 1 40 hd;clear hs;have c9:wx.cell? ⟨wr.heap.size,s,none⟩=some (.int .i64 (-1)):=((hR.blk 4 rfl).cell s).trans Qj.out;go_simp;exact hK s0' wx (fun _ _=>rfl) hR
         refine Cs (fun D s0' wx hR _ hd _ _ hs K hK=>?_) ?_
         ·have e41:=hs.v 2 41 hd;clear hs;go_simp;exact hK s0' wx (fun _ _=>rfl) hR
         refine Cs (fun D s0' wx hR _ hd _ _ hs K hK=>?_) ?_
         ·have e42:=hs.v 3 42 hd;clear hs;go_simp;exact hK s0' wx (fun _ _=>rfl) hR
         refine dJ (fun D s0' wx hR _ hd _ _ hs K hK=>?_) ?_
         ·refine hs.jb 4 43 true hd ?_;exact hK s0' wx (fun _ _=>rfl) hR
         refine dJ (fun D s0' wx hR _ hd _ _ hs K hK=>?_) ?_
         ·refine hs.jb 4 43 true hd ?_;exact hK s0' wx (fun _ _=>rfl) hR
         refine dJ (fun D s0' wx hR _ hd _ _ hs K hK=>?_) ?_
         ·refine hs.jb 4 43 true hd ?_;exact hK s0' wx (fun _ _=>rfl) hR
         refine dJ (fun D s0' wx hR _ hd _ _ hs K hK=>?_) ?_
         ·refine hs.jb 4 43 true hd ?_;exact hK s0' wx (fun _ _=>rfl) hR
         refine dJ (fun D s0' wx hR _ hd _ _ hs K hK=>?_) ?_
         ·refine hs.jb 4 43 true hd ?_;exact hK s0' wx (fun _ _=>rfl) hR
         refine dJ (fun D s0' wx hR _ hd _ _ hs K hK=>?_) ?_
         ·refine hs.jb 4 43 true hd ?_;exact hK s0' wx (fun _ _=>rfl) hR
         refine dJ (fun D s0' wx hR _ hd _ _ hs K hK=>?_) ?_
         ·refine hs.jb 4 43 true hd ?_;exact hK s0' wx (fun _ _=>rfl) hR
         refine dJ (fun D s0' wx hR _ hd _ _ hs K hK=>?_) ?_
         ·refine hs.jb 4 43 true hd ?_;exact hK s0' wx (fun _ _=>rfl) hR
         refine dJ (fun D s0' wx hR _ hd _ _ hs K hK=>?_) ?_
         ·refine hs.jb 4 43 true hd ?_;exact hK s0' wx (fun _ _=>rfl) hR
         refine dJ (fun D s0' wx hR _ hd _ _ hs K hK=>?_) ?_
         ·refine hs.jb 4 43 true hd ?_;exact hK s0' wx (fun _ _=>rfl) hR
         refine dJ (fun D s0' wx hR _ hd _ _ hs K hK=>?_) ?_
         ·refine hs.jb 4 43 true hd ?_;exact hK s0' wx (fun _ _=>rfl) hR
         refine dJ (fun D s0' wx hR _ hd _ _ hs K hK=>?_) ?_
         ·refine hs.jb 4 43 true hd ?_;exact hK s0' wx (fun _ _=>rfl) hR
         refine Cs (fun D s0' wx hR _ hd _ _ hs K hK=>?_) ?_
         ·have e43:=hs.v 4 43 hd;have e55:=hs.v 16 55 hd;clear hs;go_simp;exact hK s0' wx (fun _ _=>rfl) hR
         exact aj.nil
        ·intro D s0' wx hR hD;simp only[eH,Act.put,aO,aU,aW];have HT:Hid (St w wx [ah w.heap.size 26 #[.int .i64 s0,.slice G gn gc,.slice G' n' c'],pF (.slice (some ⟨b,off,none⟩) n' RC) ds,ax (.slice (some ⟨g,0,none⟩) 32 sc) (fJ ds p),ax x7 pre,ah wr.heap.size 108 R.toArray]):=af (hR.eG [0,1,2,3,4] (by decide) rfl);clear hR hD;go_wp2
         go_roundw
         case rel=>exact⟨j+1,rfl,rfl,by omega,by go_num,Oj,HT.out.pick [0,1,2,3] (by decide) rfl rfl⟩
         case measure=>simp[intOf];omega
       |some q=>
        have hq:=iy d s q NE.out hs HO.out;have HQI:Hid ((q:Int)<32):=af (by omega);have HWR:Hid (IntKind.i64.wrap (r:Int)=(r:Int)):=af (by rw[IntKind.wrap_i64];omega);have Qj:Hid (R.toArray[s]? =some (.int .i64 (q:Int))):=af (by simpa[opt] using HRS.out);obtain⟨vq,hvq⟩:∃vq,jc ds p q=vq:=⟨_,rfl⟩;have HQ:Hid ((fJ ds p)[q]? =some vq):=af (by rw[mD ds p q hq,hvq]);obtain⟨bv,hbv⟩:∃bv,(vq == (r:Int))=bv:=⟨_,rfl⟩;have HBV:=af hbv;have HNR:Hid (near ds p r q=bv):=af (by unfold near;rw[hvq,hbv]);have HVQ:=Bx.mk hvq;clear hvq hbv
        go_upto_region 13 with(first
         | (refine iC 108 (.tmp 37) rfl rfl 3 32 qh b (off+j*32) R rfl (by rw[HLEN.out];exact kX) P5.out ?_)
         | (refine jO 108 (.tmp 9) (.tmp 38) rfl rfl _ R rfl rfl (by rw[HLEN.out];exact kX) (by rw[HLEN.out];rfl) HOC.out ?_))
        refine kG (σ:=Unit)
         (fun s0' i=>match i with
          |0=>.int .i64 (s:Int)
          |1=>.pointer (some ⟨wr.heap.size,s,none⟩)
          |2=>.int .i64 (q:Int)
          |3=>.bool true
          |4=>.bool true
          |5=>.slice (some ⟨g,0,none⟩) 32 sc
          |6=>.int .i64 (s:Int)
          |7=>.pointer (some ⟨wr.heap.size,s,none⟩)
          |8=>.int .i64 (q:Int)
          |9=>.pointer (some ⟨g,q,none⟩)
          |10=>.int .i64 vq
          |11=>.slice (some ⟨g,0,none⟩) 32 sc
          |12=>.int .i64 (s:Int)
          |13=>.pointer (some ⟨g,s,none⟩)
          |14=>.int .i64 ((r:Int)+1)
          |15=>.int .i64 (r:Int)
          |16=>.bool bv
          |17=>.bool bv
          |_=>undef)
         (fun D s0' wx=>Sn w wx fun i=>match i with
          |0=>some (ah w.heap.size 26 #[.int .i64 s0,.slice G gn gc,.slice G' n' c'])
          |1=>some (pF (.slice (some ⟨b,off,none⟩) n' RC) ds)
          |2=>some (ax (.slice (some ⟨g,0,none⟩) 32 sc) (fJ ds p))
          |3=>some (ax x7 pre)
          |4=>some (ah wr.heap.size 108 R.toArray)
          |_=>none)
         () ?_ ?_ ?_
        ·intro D hD;refine((Sn.dN Oi.out).quiet ((ai _ _).drew)).congr fun i=>?_
         match i with
         |0 | 1 | 2 | 3 | 4=>rfl
         |i+5=>rfl
        ·refine Cs (fun D s0' wx hR _ hd _ _ hs K hK=>?_) ?_
         ·have e6:=hs.o 6 (.int .i64 (s:Int));clear hs;go_simp;exact hK s0' wx (fun _ _=>rfl) hR
         refine Cs (fun D s0' wx hR _ hd _ _ hs K hK=>?_) ?_
         ·have e9:=hs.o 9 (.pointer (some ⟨wr.heap.size,0,none⟩));have e39:=hs.v 0 39 hd;clear hs;have hsI:=Fe.out;go_simp;exact hK s0' wx (fun _ _=>rfl) hR
         refine Cs (fun D s0' wx hR _ hd _ _ hs K hK=>?_) ?_
         ·have e40:=hs.v 1 40 hd;clear hs;have c9:wx.cell? ⟨wr.heap.size,s,none⟩=some (.int .i64 (q:Int)):=((hR.blk 4 rfl).cell s).trans Qj.out;go_simp;exact hK s0' wx (fun _ _=>rfl) hR
         refine Cs (fun D s0' wx hR _ hd _ _ hs K hK=>?_) ?_
         ·have e41:=hs.v 2 41 hd;clear hs;go_simp;exact hK s0' wx (fun _ _=>rfl) hR
         refine Cs (fun D s0' wx hR _ hd _ _ hs K hK=>?_) ?_
         ·have e42:=hs.v 3 42 hd;clear hs;go_simp;exact hK s0' wx (fun _ _=>rfl) hR
         refine dJ (fun D s0' wx hR _ hd _ _ hs K hK=>?_) ?_
         ·refine hs.yes 4 43 true hd ?_;have e5:=hs.o 5 (.slice (some ⟨g,0,none⟩) 32 sc);clear hs;go_simp;exact hK s0' wx (fun _ _=>rfl) hR
         refine dJ (fun D s0' wx hR _ hd _ _ hs K hK=>?_) ?_
         ·refine hs.yes 4 43 true hd ?_;have e6:=hs.o 6 (.int .i64 (s:Int));clear hs;go_simp;exact hK s0' wx (fun _ _=>rfl) hR
         refine dJ (fun D s0' wx hR _ hd _ _ hs K hK=>?_) ?_
         ·refine hs.yes 4 43 true hd ?_;have e9:=hs.o 9 (.pointer (some ⟨wr.heap.size,0,none⟩));have e45:=hs.v 6 45 hd;clear hs;have hsI:=Fe.out;go_simp;exact hK s0' wx (fun _ _=>rfl) hR
         refine dJ (fun D s0' wx hR _ hd _ _ hs K hK=>?_) ?_
         ·refine hs.yes 4 43 true hd ?_;have e46:=hs.v 7 46 hd;clear hs;have c9:wx.cell? ⟨wr.heap.size,s,none⟩=some (.int .i64 (q:Int)):=((hR.blk 4 rfl).cell s).trans Qj.out;go_simp;exact hK s0' wx (fun _ _=>rfl) hR
         refine dJ (fun D s0' wx hR _ hd _ _ hs K hK=>?_) ?_
         ·refine hs.yes 4 43 true hd ?_;have e44:=hs.v 5 44 hd;have e47:=hs.v 8 47 hd;clear hs;have hqI:=HQI.out;go_simp;exact hK s0' wx (fun _ _=>rfl) hR
         refine dJ (fun D s0' wx hR _ hd _ _ hs K hK=>?_) ?_
         ·refine hs.yes 4 43 true hd ?_;have e48:=hs.v 9 48 hd;clear hs;have cq:wx.cell? ⟨g,q,none⟩=some (.int .i64 vq):=(hR.oK 2 rfl (jD _ _) q _ HQ.out).1;go_simp;exact hK s0' wx (fun _ _=>rfl) hR
         refine dJ (fun D s0' wx hR _ hd _ _ hs K hK=>?_) ?_
         ·refine hs.yes 4 43 true hd ?_;have e5:=hs.o 5 (.slice (some ⟨g,0,none⟩) 32 sc);clear hs;go_simp;exact hK s0' wx (fun _ _=>rfl) hR
         refine dJ (fun D s0' wx hR _ hd _ _ hs K hK=>?_) ?_
         ·refine hs.yes 4 43 true hd ?_;have e6:=hs.o 6 (.int .i64 (s:Int));clear hs;go_simp;exact hK s0' wx (fun _ _=>rfl) hR
         refine dJ (fun D s0' wx hR _ hd _ _ hs K hK=>?_) ?_
         ·refine hs.yes 4 43 true hd ?_;have e50:=hs.v 11 50 hd;have e51:=hs.v 12 51 hd;clear hs;have hsI:=Fe.out;go_simp;exact hK s0' wx (fun _ _=>rfl) hR
         refine dJ (fun D s0' wx hR _ hd _ _ hs K hK=>?_) ?_
         ·refine hs.yes 4 43 true hd ?_;have e52:=hs.v 13 52 hd;clear hs;have cs:wx.cell? ⟨g,s,none⟩=some (.int .i64 ((r:Int)+1)):=(hR.oK 2 rfl (jD _ _) s _ HSQ.out).1;go_simp;exact hK s0' wx (fun _ _=>rfl) hR
         refine dJ (fun D s0' wx hR _ hd _ _ hs K hK=>?_) ?_
         ·refine hs.yes 4 43 true hd ?_;have e53:=hs.v 14 53 hd;clear hs;go_simp;rw[HWR.out];exact hK s0' wx (fun _ _=>rfl) hR
         refine dJ (fun D s0' wx hR _ hd _ _ hs K hK=>?_) ?_
         ·refine hs.yes 4 43 true hd ?_;have e49:=hs.v 10 49 hd;have e54:=hs.v 15 54 hd;clear hs;have hbv:=HBV.out;go_simp;exact hK s0' wx (fun _ _=>rfl) hR
         refine Cs (fun D s0' wx hR _ hd _ _ hs K hK=>?_) ?_
         ·have e43:=hs.v 4 43 hd;have e55:=hs.v 16 55 hd;clear hs;go_simp;exact hK s0' wx (fun _ _=>rfl) hR
         exact aj.nil
        ·intro D s0' wx hR hD;simp only[eH,Act.put,aO,aU,aW];have HT:Hid (St w wx [ah w.heap.size 26 #[.int .i64 s0,.slice G gn gc,.slice G' n' c'],pF (.slice (some ⟨b,off,none⟩) n' RC) ds,ax (.slice (some ⟨g,0,none⟩) 32 sc) (fJ ds p),ax x7 pre,ah wr.heap.size 108 R.toArray]):=af (hR.eG [0,1,2,3,4] (by decide) rfl);clear hR hD
         cases bv with
         |false=>
          have Oj:=Bx.mk ((Lm (f:=near ds p r) HDK.out HO.out HNR.out).trans HP.out);go_wp2
          go_roundw
          case rel=>exact⟨j+1,rfl,rfl,by omega,by go_num,Oj,HT.out.pick [0,1,2,3] (by decide) rfl rfl⟩
          case measure=>simp[intOf];omega
         |true=>
          have HPK:=Bx.mk (HP.out.symm.trans (Lp (f:=near ds p r) HDK.out HO.out HNR.out));have HW2:=Bx.mk (GK HW.out HPK.out);have hvr:vq=(r:Int):=by simpa using HBV.out
          have YJ:Bx (jc ds p q=(r:Int)):=Bx.mk (HVQ.out.trans hvr);have nO:=af (HT.out.qA 3 rfl)
          have Lr:Hid (∀v3 w3,w3.ownsRow 0 3 1 v3 (pre.length+1) (ints pre++[Value.int .i64 (j:Int)])→(wx.alloc (.cells #[.int .i64 (j:Int)] 3)).grownBy w3 x7.ownBlock→(v3.ownBlock=x7.ownBlock∨v3.ownBlock=some (wx.alloc (.cells #[.int .i64 (j:Int)] 3)).heap.size)→
            St w w3 [ah w.heap.size 26 #[.int .i64 s0,.slice G gn gc,.slice G' n' c'],pF (.slice (some ⟨b,off,none⟩) n' RC) ds,ax (.slice (some ⟨g,0,none⟩) 32 sc) (fJ ds p),ax v3 (pre++[(j:Int)]),ah wr.heap.size 108 R.toArray]):=
           af fun v3 w3 h1 h2 h3=>St.rY (v:=x7) (xs:=pre) (ys:=[(j:Int)]) ((HT.out.alloc #[.int .i64 (j:Int)] 3).pick [0,1,2,3,4] (by decide) rfl rfl) 3 rfl rfl h1 (by intro y hy;simp at hy;subst hy;exact bU (by omega)) h2 h3
          have Ol:Hid ((jc ds p q).toNat=r):=af (sU YJ.out);have hsz:0≤wx.heap.size:=Nat.zero_le _;clear hvr
          go_wp2_with (at_builtin;refine cZ iR rfl _ _ rfl 0 x7 pre.length (ints pre) rfl (nO.out.alloc _) _ _ 1 1 [.int .i64 (j:Int)] rfl (bJ.new wx [.int .i64 (j:Int)] 3 1 1 rfl (by unfold maxLen;omega)) (by simp[Value.oneCell']) (by omega) (by omega) (Nat.zero_le _) ?_;intro v3 w3 hown3 hg3 mJ;have jB:=af (Lr.out v3 w3 hown3 hg3 mJ);have c9:w3.cell? ⟨wr.heap.size,s,none⟩=some (.int .i64 (q:Int)):=((jB.out.blk 4 rfl).cell s).trans Qj.out)
          go_wp2
          go_roundw
          case rel=>exact⟨q,r,pre++[(j:Int)],v3,rfl,rfl,hq,YJ,by simp;omega,HW2,jB.out.pick [0,1,2,3] (by decide) rfl rfl⟩
          case measure=>
           show(jc ds p q).toNat<(jc ds p s).toNat
           have h1:=UG.out;have h2:=Ol.out
           omega
      ·exact(GL gQ.out hs HV.out (by
       have:=HP.out
       rw[List.drop_of_length_le (by rw[gy.out];omega)] at this
       exact this.symm)).elim
def xG (ds:List au) (S m k s:Nat):Bool:=upto (eu ds (gq S)) m s||(decide (s=m)&&eu (ds.take k) (gq S) m)
theorem RI (ds:List au) (S m:Nat):aQ (xG ds S m 0) 32=aQ (upto (eu ds (gq S)) m) 32:=cO fun s _=>by simp[xG,eu]
theorem DX (ds:List au) (S m k:Nat) (d:au) (h:ds[k]? =some d):eu (ds.take (k+1)) (gq S) m=(eu (ds.take k) (gq S) m||BQ d S m):=by
 rw[take_succ' h]
 simp[eu,BQ]
theorem Qh (ds:List au) (S m k:Nat) (d:au) (h:ds[k]? =some d) (hh:BQ d S m=false):aQ (xG ds S m (k+1)) 32=aQ (xG ds S m k) 32:=cO fun s _=>by
 unfold xG
 rw[DX ds S m k d h,hh,Bool.or_false]
theorem UJ (ds:List au) (S m k:Nat) (d:au) (h:ds[k]? =some d) (hh:BQ d S m=true):∀s,s<32→xG ds S m (k+1) s=(xG ds S m k s||decide (m=s)):=fun s _=>by
 unfold xG
 rw[DX ds S m k d h,hh,Bool.or_true,Bool.and_true]
 by_cases e:s=m
 ·subst e;simp
 ·simp[e,Ne.symm e]
theorem UK (ds:List au) (S m k:Nat) (hk:ds.length≤k):aQ (xG ds S m k) 32=aQ (upto (eu ds (gq S)) (m+1)) 32:=cO fun s _=>by
 unfold xG upto
 rw[gW hk]
 by_cases e:s=m
 ·subst e;simp
 ·simp[e,show(s<m+1)↔(s<m) by omega]
theorem wV {p q:Nat→Bool} {M k:Nat} (hk:k<32) (hM:M=aQ p 32) (hq:∀j,j<32→q j=(p j||decide (k=j))):(((M:Int).toNat ||| ((2:Int)^k).toNat:Nat):Int)=((aQ q 32:Nat):Int):=by
 have e:((2:Int)^k)=((2^k:Nat):Int):=by push_cast;rfl
 rw[e,bW,bW,hM,qG _ _ _ hk,cO hq]
theorem DY {k:Nat} (h:k<32):(0:Int)≤2^k∧(2:Int)^k<4294967296:=by
 have e:((2:Int)^k)=((2^k:Nat):Int):=by push_cast;rfl
 have h1:=yH h;rw[e]
 generalize 2^k=N at h1
 omega
theorem BP (v:Value) (t:aB) (S:Nat) (w:World) (h:oW w w.heap.size v t) (hok:aK t=true) (hS:S<4294967296):
  Calls Tryz.prog 186 #[v,.int .i64 S] w fun e w'=>e= .returned (.int .i64 (aQ (eu t.ay (gq S)) 32:Nat))∧Below w.heap.size w w':=by
 have h':=h;obtain⟨G,gn,gc,G',n',c',rfl,hg,hgs,hds,hst⟩:=h;have S0:=(St.refl w).alloc #[.int .i64 t.start,.slice G gn gc,.slice G' n' c'] 26;have HT:=af (h'.up S0.below);have aS:=af S0;have bG:=af hok;have gy:=af hds.len;have Bf:=af hds;obtain⟨-,-,pz,iL⟩:=aJ t hok;have gQ:=af iL;have yF:n'≤6:=by rw[←hds.len];exact pz
 obtain⟨B,hB⟩:∃B,aQ (eu t.ay (gq S)) 32=B:=⟨_,rfl⟩;have HB:=Bx.mk hB;rw[hB];clear S0 h' hok hds pz iL hB hg;go_enter Tryz.func186,Tryz.ntmps186
 go_wp2_with fail
 refine(bV _ t _ HT.out).mono ?_;rw[bG.out];rintro e w1 ⟨rfl,hb1⟩;have bf:=af (aS.out.quiet hb1);clear hb1
 go_wp2_with fail
 refine(fO (S:Int) 0 4294967295 _ (by omega) (by omega)).mono ?_;rintro e w2 ⟨rfl,rfl⟩;go_wp2
 go_loopw [6,5] (fun i sv wr=>∃m M:Nat,m≤32∧i= .int .i64 m∧sv= .int .i64 M∧Bx (M=aQ (upto (eu t.ay (gq S)) m) 32)∧St w wr [ah w.heap.size 26 #[.int .i64 t.start,.slice G gn gc,.slice G' n' c']]) (fun i _ _=>32-(intOf i).toNat)
 case atStart=>exact⟨0,0,by omega,rfl,rfl,Bx.mk (sD _ _).symm,bf.out⟩
 case round=>
  obtain⟨m,M,hm,rfl,rfl,HM,MM⟩:=hrel;have wU:=af MM;clear MM
  by_cases hlt:m<32
  ·have CQ:Bx (M=aQ (xG t.ay S m 0) 32):=Bx.mk (HM.out.trans (RI _ _ _).symm);clear HM;go_wp2
   try generalize decide ((m:Int)<32)=dm
   go_loopw [7,5] (fun i sv wr=>∃k M:Nat,k≤n'∧i= .int .i64 k∧sv= .int .i64 M∧Bx (M=aQ (xG t.ay S m k) 32)∧St w wr [ah w.heap.size 26 #[.int .i64 t.start,.slice G gn gc,.slice G' n' c']]) (fun i _ _=>n'-(intOf i).toNat)
   case atStart=>exact⟨0,M,by omega,rfl,rfl,CQ,wU.out⟩
   case round=>
    clear CQ wU;obtain⟨k,M1,hk,rfl,rfl,HM,MM⟩:=hrel;have q0:=MM.cells 0 rfl;have wU:=af MM;clear MM
    by_cases hkn:k<n'
    ·obtain⟨b,off,d,rfl,hb,hd,hda⟩:=Bf.out.get hkn;obtain⟨An,nn,cn,p0,p1,p2,p3,dU,hnn,-⟩:=hda;have r0:wr.cell? ⟨b,off+k*4,none⟩=some (.slice An nn cn):=(aF wU.out.below b _ hb).trans p0;have r1:wr.cell? ⟨b,off+k*4+1,none⟩=some (.int .i64 d.on):=(aF wU.out.below b _ hb).trans p1;have r2:wr.cell? ⟨b,off+k*4+2,none⟩=some (.int .i64 d.off):=(aF wU.out.below b _ hb).trans p2;have r3:wr.cell? ⟨b,off+k*4+3,none⟩=some (.int .i64 d.flip):=(aF wU.out.below b _ hb).trans p3;have HDK:=af (gQ.out d (bT hd));have HD0:=af hd;have Ll:=af dU;obtain⟨o,ho⟩:∃o,bD d m=o:=⟨_,rfl⟩;have HO:=af ho;clear p0 p1 p2 p3 dU hd ho
     go_wp2_with fail
     refine(uN An nn cn d m _ (Ll.out.up wU.out.below) HDK.out hlt).mono ?_;rw[HO.out];rintro e w3 ⟨rfl,hb3⟩;have zF:=af (wU.out.quiet hb3);clear hb3 q0 r0 r1 r2 r3
     cases o with
     |none=>
      have iO:Bx (M1=aQ (xG t.ay S m (k+1)) 32):=Bx.mk (HM.out.trans (Qh _ _ _ _ d HD0.out (GU d S m HO.out)).symm);simp only[opt];go_wp2
      go_roundw
      case rel=>exact⟨k+1,M1,by omega,by go_num,rfl,iO,zF.out⟩
      case measure=>simp[intOf];omega
     |some q=>
      have hq:=iy d m q HDK.out hlt HO.out;simp only[opt]
      go_wp2_with fail
      refine(jX S q (by omega) _).mono ?_;rintro e w4 ⟨rfl,rfl⟩
      by_cases hs1:bit S q=1
      ·have hpw:=iK m (by omega);obtain⟨hp0,hp1⟩:=DY hlt;obtain⟨M2,hM2⟩:∃M2,aQ (xG t.ay S m (k+1)) 32=M2:=⟨_,rfl⟩
       have YL:Bx ((((M1:Int).toNat ||| ((2:Int)^m).toNat:Nat):Int)=(M2:Int)):=Bx.mk (by
        rw[←hM2]
        exact wV hlt HM.out (UJ t.ay S m k d HD0.out (by rw[vW d S m q HO.out,hs1];rfl)))
       have iO:=Bx.mk hM2.symm;have hM1:M1<4294967296:=by rw[HM.out];exact dI _
       rw[hs1];clear hs1 hM2
       go_wp2_with fail
       refine(o9 (M1:Int) (2^m) (by omega) (by omega) (by omega) (by omega) _).mono ?_;rw[YL.out];rintro e w5 ⟨rfl,rfl⟩;clear hp0 hp1 hM1 hpw;go_wp2
       go_roundw
       case rel=>exact⟨k+1,M2,by omega,by go_num,rfl,iO,zF.out⟩
       case measure=>simp[intOf];omega
      ·have hs0:bit S q=0:=by have:=jo S q;omega
       have iO:Bx (M1=aQ (xG t.ay S m (k+1)) 32):=Bx.mk (HM.out.trans (Qh _ _ _ _ d HD0.out (by rw[vW d S m q HO.out,hs0];rfl)).symm);rw[hs0];clear hs1 hs0;go_wp2
       go_roundw
       case rel=>exact⟨k+1,M1,by omega,by go_num,rfl,iO,zF.out⟩
       case measure=>simp[intOf];omega
    ·have iO:Bx (M1=aQ (upto (eu t.ay (gq S)) (m+1)) 32):=Bx.mk (HM.out.trans (UK _ _ _ _ (by rw[gy.out];omega)));go_wp2
     go_roundw
     case rel=>exact⟨m+1,M1,by omega,by go_num,rfl,iO,wU.out⟩
     case measure=>simp[intOf];omega
  ·have HF:Bx (M=B):=Bx.mk (by rw[HM.out,show m=32 by omega,xw,HB.out]);go_wp2;go_ret;exact⟨aP (by rw[HF.out]),wU.out.below⟩
def newP (ds:List au) (p:Nat→Bool):Nat→Nat→Bool
 |0,s=>p s
 |m+1,s=>iD ds p m s
def DT (ds:List au) (p:Nat→Bool):Nat→Nat→Int
 |0,_=>-1
 |m+1,s=>gI ds p m s
theorem Xa {ds:List au} {p:Nat→Bool} {m s N:Nat} (hs:s<32) (hN:N=aQ (newP ds p m) 32) (h:bit N s=1):(m:Int)=gI ds p m s:=by
 cases m with
 |zero=>
  have:p s=true:=by
   have:=jw (newP ds p 0) hs
   rw[←hN,h] at this;exact this.symm
  simp[gI,this]
 |succ m=>exact GN hs hN h
theorem Z8 {ds:List au} {p:Nat→Bool} {m s N:Nat} (hs:s<32) (hN:N=aQ (newP ds p m) 32) (h:bit N s=0):gI ds p m s=DT ds p m s:=by
 cases m with
 |zero=>
  have:p s=false:=by
   have:=jw (newP ds p 0) hs
   rw[←hN,h] at this;exact this.symm
  simp[gI,DT,this]
 |succ m=>exact Ls hs hN h
theorem Lu {ds:List au} {p:Nat→Bool} (m s:Nat) (h:layer ds p m s=false):eu ds (newP ds p m) s=eu ds (layer ds p m) s:=by
 cases m with
 |zero=>rfl
 |succ m=>
  have h0:eu ds (layer ds p m) s=false:=by
   simp only[layer,Bool.or_eq_false_iff] at h;exact h.2
  rw[Bool.eq_iff_iff]
  constructor
  ·refine Om fun s' hs'=>?_
   have:iD ds p m s'=true:=hs'
   unfold iD at this
   simp only[Bool.and_eq_true] at this
   simp[layer,this.1]
  ·intro hb;obtain⟨d,hd,s',e,hl⟩:=jM.1 hb;refine jM.2 ⟨d,hd,s',e,?_⟩
   have h1:layer ds p m s'=false:=by
    cases e1:layer ds p m s' with
    |false=>rfl
    |true=>rw[jM.2 ⟨d,hd,s',e,e1⟩] at h0;cases h0
   show iD ds p m s'=true
   simp only[layer,h1,Bool.false_or] at hl
   unfold iD
   rw[hl,h1];rfl
def aeN (ds:List au) (p:Nat→Bool) (m:Nat):Nat→Bool:=newP ds p (m+1)
theorem UH {ds:List au} {p:Nat→Bool} {m s B:Nat} (hs:s<32) (hB:B=aQ (eu ds (newP ds p m)) 32) (h:bit B s=1) (hn:gI ds p m s<0):newP ds p (m+1) s=true:=by
 have hl:layer ds p m s=false:=by
  cases e:layer ds p m s with
  |false=>rfl
  |true=>have:=(uO (n:=m)).2 e;omega
 have hb:eu ds (newP ds p m) s=true:=by
  have:=jw (eu ds (newP ds p m)) hs
  rw[←hB,h] at this;exact this.symm
 show iD ds p m s=true
 unfold iD
 rw[←Lu m s hl,hb,hl];rfl
theorem Qg {ds:List au} {p:Nat→Bool} {m s B:Nat} (hs:s<32) (hB:B=aQ (eu ds (newP ds p m)) 32) (h:bit B s=0∨0≤gI ds p m s):newP ds p (m+1) s=false:=by
 show iD ds p m s=false
 unfold iD
 cases e:layer ds p m s with
 |true=>simp
 |false=>
  rcases h with h | h
  ·have hb:eu ds (newP ds p m) s=false:=by
    have:=jw (eu ds (newP ds p m)) hs
    rw[←hB,h] at this;exact this.symm
   rw[←Lu m s e,hb];rfl
  ·rw[rD e] at h;omega
theorem Oo {ds:List au} {p:Nat→Bool} {m:Nat} (hd:∀d∈ds,bK d=true) (h:aQ (newP ds p m) 32=0):(List.range 32).map (DT ds p m)=fJ ds p:=by
 cases m with
 |succ m=>exact DU hd h
 |zero=>
  have h0:=kV.1 h
  have hf:kD ds p 0:=by
   intro s hs hb;obtain⟨d,hm,s',e,hp⟩:=jM.1 hb
   have:=h0 s' (iy d s s' (hd d hm) hs e)
   have hp':p s'=true:=hp;have h1:p s'=false:=this;rw[hp'] at h1;cases h1
  unfold fJ
  refine List.map_congr_left fun s hs=>?_
  rw[DV hd hf (List.mem_range.1 hs)];have:p s=false:=h0 s (List.mem_range.1 hs)
  simp[DT,gI,this]
theorem Oq {ds:List au} {p:Nat→Bool} {m:Nat} (h:aQ (newP ds p m) 32≠0) (hc:∀j,m=j+1→j≤cnt (layer ds p j) 32):∀j,m+1=j+1→j≤cnt (layer ds p j) 32:=fun j hj=>by
 have:j=m:=by omega
 subst this
 cases j with
 |zero=>exact Nat.zero_le _
 |succ j=>exact LC h (hc j rfl)
theorem least_le {ds:List au} {p:Nat→Bool} {m:Nat} (hc:∀j,m=j+1→j≤cnt (layer ds p j) 32):m≤33:=by
 cases m with
 |zero=>omega
 |succ m=>have:=hc m rfl;have:=cnt_le (layer ds p m) 32;omega
def uP (t:aB):List Int:=if aK t then fJ t.ay (aH t.goal) else []
theorem uM (t:aB) (h:aK t=false):uP t=[]:=if_neg (by rw[h];simp)
theorem tV (t:aB) (h:aK t=true):uP t=fJ t.ay (aH t.goal):=if_pos h
theorem tN (v:Value) (t:aB) (w:World) (h:oW w w.heap.size v t):
  Calls Tryz.prog 158 #[v] w (Gives w id fun v=>[ax v (uP t)]):=by
 have h':=h;obtain⟨G,gn,gc,G',n',c',rfl,hg,hgs,hds,hst⟩:=h
 have S0:St w ((w.alloc (.cells #[.int .i64 t.start,.slice G gn gc,.slice G' n' c'] 26)).alloc (.cells #[] 3)) [ah w.heap.size 26 #[.int .i64 t.start,.slice G gn gc,.slice G' n' c'],ax (.slice (some ⟨w.heap.size+1,0,none⟩) 0 0) []]:=
  ((St.refl w).alloc #[.int .i64 t.start,.slice G gn gc,.slice G' n' c'] 26).call (St.yA _ _ (by simp))
 have HT:=af h';have HG:=af hg;have aS:=af S0;clear S0 h' hg;obtain⟨bo,hok⟩:∃b,aK t=b:=⟨_,rfl⟩;have bG:=af hok;clear hok hds
 cases bo with
 |false=>
  have HN:=af (uM t bG.out);go_enter Tryz.func158,Tryz.ntmps158
  go_wp2_with fail
  refine(bV _ t _ (HT.out.up aS.out.below)).mono ?_;rw[bG.out];rintro e w1 ⟨rfl,hb1⟩;have bf:=af (aS.out.quiet hb1);clear hb1;go_wp2;go_ret;exact⟨_,rfl,by rw[HN.out];exact bf.out.pick [1] (by decide) rfl rfl⟩
 |true=>
  obtain⟨-,qB,-,iL⟩:=aJ t bG.out;have gQ:=af iL;have UI:=af qB;have HY:=Bx.mk (tV t bG.out);obtain⟨N0,hN⟩:∃N,lG t.goal=N:=⟨_,rfl⟩;have HN:=Bx.mk hN;have Ot:=Bx.mk (gV t.goal UI.out);clear iL qB hN;go_enter Tryz.func158,Tryz.ntmps158
  go_wp2_with fail
  refine(bV _ t _ (HT.out.up aS.out.below)).mono ?_;rw[bG.out];rintro e w1 ⟨rfl,hb1⟩;have bf:=af (aS.out.quiet hb1);clear hb1 aS;go_wp2
  go_loopw [4,3] (fun i ov wr=>∃(k:Nat) (x3:Value),k≤32∧i= .int .i64 k∧x3=ov∧St w wr [ah w.heap.size 26 #[.int .i64 t.start,.slice G gn gc,.slice G' n' c'],ax x3 (List.replicate k (-1))]) (fun i _ _=>32-(intOf i).toNat)
  case atStart=>exact⟨0,_,by omega,rfl,rfl,bf.out⟩
  case round=>
   obtain⟨k,x3,hk,rfl,rfl,M⟩:=hrel;have HM:=af M;clear M bf
   by_cases hlt:k<32
   ·have nO:Hid (wr.ownsRow 0 3 1 x3 k (ints (List.replicate k (-1)))):=af (by have:=HM.out.qA 1 rfl;rwa[List.length_replicate] at this)
    have Lr:Hid (∀v3 w3,w3.ownsRow 0 3 1 v3 (k+1) (ints (List.replicate k (-1))++[Value.int .i64 (-1)])→(wr.alloc (.cells #[.int .i64 (-1)] 3)).grownBy w3 x3.ownBlock→(v3.ownBlock=x3.ownBlock∨v3.ownBlock=some (wr.alloc (.cells #[.int .i64 (-1)] 3)).heap.size)→
      St w w3 [ah w.heap.size 26 #[.int .i64 t.start,.slice G gn gc,.slice G' n' c'],ax v3 (List.replicate (k+1) (-1))]):=
     af fun v3 w3 h1 h2 h3=>by
      have:=St.rY (v:=x3) (xs:=List.replicate k (-1)) (ys:=[-1]) ((HM.out.alloc #[.int .i64 (-1)] 3).pick [0,1] (by decide) rfl rfl) 1 rfl (by simp) h1 (by intro y hy;simp at hy;subst hy;rfl) h2 h3
      rw[←List.replicate_succ'] at this;exact this
    go_wp2_with (at_builtin;refine cZ iR rfl _ _ rfl 0 x3 k (ints (List.replicate k (-1))) rfl (nO.out.alloc _) _ _ 1 1 [.int .i64 (-1)] rfl (bJ.new wr [.int .i64 (-1)] 3 1 1 rfl (by unfold maxLen;omega)) (by simp[Value.oneCell']) (by omega) (by omega) (Nat.zero_le _) ?_;intro v3 w3 hown3 hg3 mJ;have jB:=af (Lr.out v3 w3 hown3 hg3 mJ))
    go_wp2
    go_roundw
    case rel=>exact⟨k+1,v3,by omega,by go_num,rfl,jB.out⟩
    case measure=>simp[intOf];omega
   ·have abC:k=32:=by omega
    have WH:Hid (St w wr [ah w.heap.size 26 #[.int .i64 t.start,.slice G gn gc,.slice G' n' c'],ax x3 ((List.range 32).map (DT t.ay (aH t.goal) 0))]):=af (by
     have:=HM.out
     rw[abC] at this
     exact this)
    obtain⟨g,oc,hx3⟩:=WH.out.Lj 1 rfl (n:=32) (by simp) (by omega);subst hx3;have q1:=WH.out.cells 0 rfl;clear HM abC
    go_wp2_with fail
    refine(qg G gn gc t.goal _ (HG.out.up WH.out.below) hgs).mono ?_;rw[Ot.out,HN.out];rintro e w3 ⟨rfl,hb3⟩;have cu:=af (WH.out.quiet hb3);clear q1 hb3 WH;obtain⟨p,hp⟩:∃p,aH t.goal=p:=⟨_,rfl⟩;have HNP:Bx (N0=aQ (newP t.ay p 0) 32):=Bx.mk (by rw[←HN.out,←hp];rfl);rw[hp] at cu HY;clear hp HN Ot;go_wp2
    try generalize decide ((k:Int)<32)=dk
    go_loopw [5,6] (fun nv mv wr=>∃m N:Nat,nv= .int .i64 N∧mv= .int .i64 m∧Bx (N=aQ (newP t.ay p m) 32)∧Bx (∀j,m=j+1→j≤cnt (layer t.ay p j) 32)∧St w wr [ah w.heap.size 26 #[.int .i64 t.start,.slice G gn gc,.slice G' n' c'],ax (.slice (some ⟨g,0,none⟩) 32 oc) ((List.range 32).map (DT t.ay p m))]) (fun _ mv _=>40-(intOf mv).toNat)
    case atStart=>exact⟨0,N0,rfl,rfl,HNP,Bx.mk fun j hj=>by omega,cu.out⟩
    case round=>
     clear HNP cu;obtain⟨m,N,rfl,rfl,HN,HC,M⟩:=hrel;have ae6:=least_le HC.out;have HM:=af M;clear M;have Xb:N<4294967296:=by rw[HN.out];exact dI _
     by_cases h0:N=0
     ·have HE:=Bx.mk (Oo gQ.out (by rw[←HN.out];exact h0):(List.range 32).map (DT t.ay p m)=fJ t.ay p);subst h0;go_wp2;go_ret;exact⟨_,rfl,by rw[HY.out,←HE.out];exact HM.out.pick [1] (by decide) rfl rfl⟩
     ·have hz:(0:Int)<(N:Int):=by omega
      have HC2:=Bx.mk (Oq (by rw[←HN.out];exact h0) HC.out);have iO:Hid (St w wr [ah w.heap.size 26 #[.int .i64 t.start,.slice G gn gc,.slice G' n' c'],ax (.slice (some ⟨g,0,none⟩) 32 oc) (qC (gI t.ay p m) (DT t.ay p m) 0)]):=af (by rw[vU];exact HM.out);clear h0 HM;go_wp2;clear hz
      try generalize decide ((0:Int)<(N:Int))=dn
      try generalize decide (0<N)=dn2
      try generalize Value.bool (decide _)=dn3
      go_loopw [7] (fun i wr=>∃k:Nat,k≤32∧i= .int .i64 k∧St w wr [ah w.heap.size 26 #[.int .i64 t.start,.slice G gn gc,.slice G' n' c'],ax (.slice (some ⟨g,0,none⟩) 32 oc) (qC (gI t.ay p m) (DT t.ay p m) k)]) (fun i _=>32-(intOf i).toNat)
      case atStart=>exact⟨0,by omega,rfl,iO.out⟩
      case round=>
       clear iO;obtain⟨k,hk,rfl,M⟩:=hrel;have HM:=af M;clear M
       by_cases hlt:k<32
       ·go_wp2_with fail
        refine(jX N k (by omega) _).mono ?_;rintro e w5 ⟨rfl,rfl⟩
        by_cases hb1:bit N k=1
        ·obtain⟨hc,hf⟩:=HM.out.oK 1 rfl (oN _ _ _) k _ (zQ _ _ k hlt);have HE:=Bx.mk (Xa hlt HN.out hb1);have HST:=af (HM.out.IY 1 rfl (oN _ _ _) k (m:Int) (bU (by omega)));obtain⟨v0,hv0⟩:∃v0,DT t.ay p m k=v0:=⟨_,rfl⟩;rw[hv0] at hc;rw[hb1];clear hb1 hv0;go_wp2
         go_roundw
         case rel=>exact⟨k+1,by omega,by go_num,by rw[←yG _ _ k _ HE.out];exact HST.out⟩
         case measure=>simp[intOf];omega
        ·have hb0:bit N k=0:=by have:=jo N k;omega
         have HE:=Bx.mk (GR (gI t.ay p m) (DT t.ay p m) k (Z8 hlt HN.out hb0));rw[hb0];clear hb1 hb0;go_wp2
         go_roundw
         case rel=>exact⟨k+1,by omega,by go_num,by rw[HE.out];exact HM.out⟩
         case measure=>simp[intOf];omega
       ·have zF:Hid (St w wr [ah w.heap.size 26 #[.int .i64 t.start,.slice G gn gc,.slice G' n' c'],ax (.slice (some ⟨g,0,none⟩) 32 oc) ((List.range 32).map (gI t.ay p m))]):=af (by
         have:=HM.out
         rw[show k=32 by omega,DW] at this
         exact this)
        have q3:=zF.out.cells 0 rfl;clear HM;obtain⟨B,hB⟩:∃B,aQ (eu t.ay (gq N)) 32=B:=⟨_,rfl⟩;have HB:Bx (B=aQ (eu t.ay (newP t.ay p m)) 32):=Bx.mk (by rw[←hB,HN.out];exact LD gQ.out _);have YI:=Bx.mk hB;clear hB
        go_wp2_with fail
        refine(BP _ t N _ (HT.out.up zF.out.below) bG.out Xb).mono ?_;rw[YI.out];rintro e w6 ⟨rfl,hb6⟩;have YK:=af (zF.out.quiet hb6);clear hb6 q3 zF YI;go_wp2
        try generalize decide ((k:Int)<32)=dk2
        go_loopw [9,5] (fun i nv wr=>∃k M:Nat,k≤32∧i= .int .i64 k∧nv= .int .i64 M∧M<2^k∧Bx (M=aQ (upto (newP t.ay p (m+1)) k) 32)∧St w wr [ah w.heap.size 26 #[.int .i64 t.start,.slice G gn gc,.slice G' n' c'],ax (.slice (some ⟨g,0,none⟩) 32 oc) ((List.range 32).map (gI t.ay p m))]) (fun i _ _=>32-(intOf i).toNat)
        case atStart=>exact⟨0,0,by omega,rfl,rfl,by omega,Bx.mk (sD _ _).symm,YK.out⟩
        case round=>
         clear YK;obtain⟨k,M,hk,rfl,rfl,hMk,wU,MM⟩:=hrel;have HM:=af MM;have Yu:=Bx.mk hMk;clear MM hMk
         by_cases hlt:k<32
         ·have hpw:=iK k (by omega);have hpl:=yH hlt;obtain⟨vk,hvk⟩:∃vk,gI t.ay p m k=vk:=⟨_,rfl⟩;obtain⟨hc,-⟩:=HM.out.oK 1 rfl (by simp) k vk (by simp[hlt,hvk]);have HVK:=Bx.mk hvk;clear hvk
          go_wp2_with fail
          refine(jX B k (by omega) _).mono ?_;rintro e w7 ⟨rfl,rfl⟩
          by_cases hb1:bit B k=1
          ·by_cases hneg:vk<0
           ·obtain⟨M2,hM2⟩:∃M2,M+2^k=M2:=⟨_,rfl⟩;have hadd:(M:Int)+2^k=(M2:Int):=by rw[←hM2];push_cast;rfl
            have iO:Bx (M2=aQ (upto (newP t.ay p (m+1)) (k+1)) 32):=Bx.mk (by rw[←hM2,wR _ 32 k hlt (UH hlt HB.out hb1 (by rw[HVK.out];exact hneg)),←wU.out]);have hlt2:M2<2^(k+1):=by rw[←hM2,Nat.pow_succ];have:=Yu.out;omega
            have hl2:M2<4294967296:=by rw[iO.out];exact dI _
            have HL2:=Bx.mk hlt2;rw[hb1];clear hM2 hlt2 hb1;go_wp2
            go_roundw
            case rel=>exact⟨k+1,M2,by omega,by go_num,by first | rfl | go_num | (congr 1;rw[hadd]),HL2.out,iO,HM.out⟩
            case measure=>simp[intOf];omega
           ·have iO:Bx (M=aQ (upto (newP t.ay p (m+1)) (k+1)) 32):=Bx.mk (wU.out.trans (vV _ k (Qg hlt HB.out (.inr (by rw[HVK.out];omega)))).symm);have HL2:Bx (M<2^(k+1)):=Bx.mk (by rw[Nat.pow_succ];have:=Yu.out;omega);rw[hb1];clear hb1;go_wp2
            go_roundw
            case rel=>exact⟨k+1,M,by omega,by go_num,rfl,HL2.out,iO,HM.out⟩
            case measure=>simp[intOf];omega
          ·have hb0:bit B k=0:=by have:=jo B k;omega
           have iO:Bx (M=aQ (upto (newP t.ay p (m+1)) (k+1)) 32):=Bx.mk (wU.out.trans (vV _ k (Qg hlt HB.out (.inl hb0))).symm);have HL2:Bx (M<2^(k+1)):=Bx.mk (by rw[Nat.pow_succ];have:=Yu.out;omega);rw[hb0];clear hb1 hb0;go_wp2
           go_roundw
           case rel=>exact⟨k+1,M,by omega,by go_num,rfl,HL2.out,iO,HM.out⟩
           case measure=>simp[intOf];omega
         ·have iO:Bx (M=aQ (newP t.ay p (m+1)) 32):=Bx.mk (by rw[wU.out,show k=32 by omega,xw]);go_wp2
          go_roundw
          case rel=>exact⟨m+1,M,rfl,by go_num,iO,HC2,HM.out⟩
          case measure=>simp[intOf];omega
end Go.Proofs.YtkmcengmglgdeaaGreatDoor
