/- A part of the proof: PlanForW. -/
import Derived.Test.YtkmcengmglgdeaaGreatDoorSBack
namespace Go.Proofs.YtkmcengmglgdeaaGreatDoor
set_option linter.unusedVariables false
set_option linter.unusedSimpArgs false
set_option maxRecDepth 100000
set_option maxHeartbeats 8000000
open Go.ChangeShapes Go.WideShapes Go.ChangeAt Go.RowKit
theorem St.Io {w W:World} {L:List dW} (h:St w W L) (i:Nat) {e:TypeId} {size n c:Nat} {A:Option Addr} {cells:List Value} (hi:L[i]? =some (rRow e size (.slice A n c) n cells)):bQ W W.heap.size size A n c cells:=by
 obtain⟨A',c',hv,hr⟩:=h.lT i hi;simp only[Value.slice.injEq,true_and] at hv;obtain⟨rfl,rfl⟩:=hv;exact hr
theorem Sn.qj {w W:World} {M:Nat→Option dW} (h:Sn w W M) (i:Nat) {g n c:Nat} {xs:List Int} (hi:M i=some (aA (.slice (some ⟨g,0,none⟩) n c) xs)) (hn:xs.length=n) (k:Nat) (x:Int) (hx:xs[k]? =some x):W.cell? ⟨g,k,none⟩=some (.int .i64 x)∧W.frozen? ⟨g,k,none⟩=false:=
 St.qj (h.fO [i] (by simp) (L:=[aA (.slice (some ⟨g,0,none⟩) n c) xs]) (by simp only[List.map,hi])) 0 rfl hn k x hx
theorem CP (t:aB) (h:aK t=false):dK t=none:=if_neg (by rw[h];simp)
theorem Ac (t:aB) (h:aK t=true) (s:Nat) (hs:t.start=(s:Int)):dK t=if iQ t.ax (aH t.goal) s<0 then none else some (mW t.ax (aH t.goal) (iQ t.ax (aH t.goal) s).toNat s):=by
 unfold dK NC
 rw[if_pos h,hs,dD]
theorem zx {f:Nat→Bool} {s:Nat} {ds:List aj} {j:Nat} {d:aj} (hd:ds[j]? =some d):pick f s (ds.drop j) j=match aX d s with
  |some s'=>if f s' then some (j,s') else pick f s (ds.drop (j+1)) (j+1)
  |none=>pick f s (ds.drop (j+1)) (j+1):=by
 obtain⟨h1,h2⟩:=aW.1 hd;rw[List.drop_eq_getElem_cons h1,h2]
 rfl
theorem FP {f:Nat→Bool} {s:Nat} {ds:List aj} {j:Nat} {d:aj} (hd:ds[j]? =some d) (h:aX d s=none):pick f s (ds.drop (j+1)) (j+1)=pick f s (ds.drop j) j:=by rw[zx hd,h]
theorem J9 {f:Nat→Bool} {s q:Nat} {ds:List aj} {j:Nat} {d:aj} (hd:ds[j]? =some d) (h:aX d s=some q) (hf:f q=false):pick f s (ds.drop (j+1)) (j+1)=pick f s (ds.drop j) j:=by rw[zx hd,h];simp[hf]
theorem Ko {f:Nat→Bool} {s q:Nat} {ds:List aj} {j:Nat} {d:aj} (hd:ds[j]? =some d) (h:aX d s=some q) (hf:f q=true):pick f s (ds.drop j) j=some (j,q):=by rw[zx hd,h];simp[hf]
def near (ds:List aj) (p:Nat→Bool) (m:Nat):Nat→Bool:=fun s'=>iQ ds p s' == (m:Int)
theorem FQ {ds:List aj} {p:Nat→Bool} {m s j q:Nat} {pre plan:List Int} (h:pre++mW ds p (m+1) s=plan) (hp:pick (near ds p m) s ds 0=some (j,q)):(pre++[(j:Int)])++mW ds p m q=plan:=by
 rw[←h,List.append_assoc]
 congr 1
 show _=mW ds p (m+1) s
 unfold near at hp
 simp only[mW,hp]
 rfl
theorem FT {ds:List aj} {p:Nat→Bool} {m s:Nat} (hd:∀d∈ds,bJ d=true) (hs:s<32) (h:iQ ds p s=((m+1:Nat):Int)) (hn:pick (near ds p m) s ds 0=none):False:=by
 obtain⟨d,hm,s',e,_,h1⟩:=FZ hd hs h;obtain⟨j,s'',h2,-⟩:=F5 (f:=near ds p m) (s:=s) (ds:=ds) (k:=0) ⟨d,hm,s',e,by unfold near;simpa using h1⟩;rw[hn] at h2;cases h2
theorem O5 (ds:List aj) (p:Nat→Bool) (s:Nat): -1≤iQ ds p s∧iQ ds p s≤32:=Pg (ds:=ds) (S:=p) (n:=32) (s:=s)
theorem rQ {x:Int} {m:Nat} (h:x=(m:Int)):x.toNat=m:=by rw[h,dD]
theorem rM (v:Value) (t:aB) (w:World) (h:nI w w.heap.size v t):
  Calls Tryz.prog 31 #[v] w (Gives w (fun v=>.tuple #[v,.bool (dK t).isSome]) fun v=>[aA v ((dK t).getD [])]):=by
 have h':=h;obtain⟨G,gn,gc,G',n',c',rfl,hg,hgs,hds,hst⟩:=h;have S0:=(St.refl w).alloc #[.int .i64 t.start,.slice G gn gc,.slice G' n' c'] 26;have HT:=af h';have HG:=af hg;have aQ:=af S0;have fF:=af hds.len;clear S0 h' hg hds;obtain⟨bo,hok⟩:∃b,aK t=b:=⟨_,rfl⟩;have bC:=af hok;clear hok
 cases bo with
 |false=>
  have Nj:=af (CP t bC.out);go_enter Tryz.func31,Tryz.ntmps31
  go_wp2_with fail
  refine(bV _ t _ (HT.out.up aQ.out.below)).mono ?_;rw[bC.out];rintro e w1 ⟨rfl,hb1⟩;have HB:=af (aQ.out.quiet hb1).below;clear hb1;go_wp2;refine bodyPost_ret (v:=.tuple #[.slice none 0 0,.bool false]) (by simp[results,Tryz.results31,go_sem]) rfl ⟨.slice none 0 0,by rw[Nj.out];rfl,?_⟩;rw[Nj.out];exact iE w _ HB.out
 |true=>
  obtain⟨hs0,pV,oq,iq⟩:=aJ t bC.out;obtain⟨s0,xJ⟩:=bI hs0.1;have gU:=af iq;have Ug:=af pV;have lQ:s0<32:=by omega
  have Ub:=Bx.mk (Ac t bC.out s0 xJ);obtain⟨plan,CQ⟩:∃plan,(dK t).getD []=plan:=⟨_,rfl⟩;have AU:=Bx.mk CQ;rw[CQ];obtain⟨N,hN⟩:∃N,kU t.goal=N:=⟨_,rfl⟩;have HN:=Bx.mk hN;have Nu:=Bx.mk (fQ t.goal Ug.out);have HN6:Hid (n'≤6):=af (by rw[←fF.out];exact oq);have xK:n'≤6:=HN6.out;clear iq pV CQ hN hs0 oq;rw[xJ] at aQ ⊢
  go_enter Tryz.func31,Tryz.ntmps31
  go_wp2_with fail
  refine(bV _ t _ (by rw[←xJ];rw[←xJ] at aQ;exact HT.out.up aQ.out.below)).mono ?_;rw[bC.out];rintro e w1 ⟨rfl,hb1⟩;have bG:=af (aQ.out.quiet hb1);have q1:=bG.out.cells 0 rfl;clear hb1
  go_wp2_with fail
  refine(qB _ t _ (by have:=HT.out.up bG.out.below;rw[xJ] at this;exact this) bC.out).mono ?_;rintro e w2 ⟨rv,rfl,s2⟩;have HS2:Hid (St w w2 [ah w.heap.size 26 #[.int .i64 s0,.slice G gn gc,.slice G' n' c'],ou rv t.ax]):=af (bG.out.call s2);clear q1 s2;obtain⟨RA,RC,X4,-⟩:=HS2.out.lT 1 rfl;rw[fF.out] at X4;subst X4;have q2:=HS2.out.cells 0 rfl
  go_wp2_with fail
  refine(mG G gn gc t.goal _ (HG.out.up HS2.out.below)).mono ?_;rw[Nu.out,HN.out];rintro e w3 ⟨rfl,hb3⟩;have dV:=af (HS2.out.quiet hb3);clear q2 hb3;have X5:Hid (∀W,St w W [ah w.heap.size 26 #[.int .i64 s0,.slice G gn gc,.slice G' n' c'],ou (.slice RA n' RC) t.ax]→bQ W W.heap.size 32 RA n' RC (ints (xP t.ax))):=af fun W h=>h.Io (n:=n') 1 (by rw[←fF.out];rfl)
  go_wp2_with fail
  refine(EJ RA n' RC t.ax (aH t.goal) N _ (X5.out _ dV.out) fF.out gU.out xK HN.out.symm).mono ?_;rintro e w4 ⟨sv,rfl,s4⟩;have iM:Hid (St w w4 [ah w.heap.size 26 #[.int .i64 s0,.slice G gn gc,.slice G' n' c'],ou (.slice RA n' RC) t.ax,aA sv (eP t.ax (aH t.goal))]):=af (dV.out.call s4);clear s4;obtain⟨g,sc,hsv⟩:=iM.out.J7 2 rfl (jo _ _) (by omega);subst hsv;have q4:=iM.out.cells 0 rfl;obtain⟨ds,hds⟩:∃ds,t.ax=ds:=⟨_,rfl⟩;obtain⟨p,hp⟩:∃p,aH t.goal=p:=⟨_,rfl⟩;rw[hds,hp] at iM Ub;rw[hds] at fF gU;have HRR:Hid (∀W L,St w W (ah w.heap.size 26 #[.int .i64 s0,.slice G gn gc,.slice G' n' c']::ou (.slice RA n' RC) ds::L)→bQ W W.heap.size 32 RA n' RC (ints (xP ds))):=af fun W L h=>h.Io (n:=n') 1 (by rw[←fF.out];rfl)
  obtain⟨hc0,-⟩:=iM.out.qj 2 rfl (jo _ _) s0 _ (lM ds p s0 lQ);have hbd:=O5 ds p s0;clear dV HS2 bG aQ HT HG Nu HN hds hp X5
  by_cases hneg:iQ ds p s0<0
  ·have Nj:Bx (dK t=none):=Bx.mk (by rw[Ub.out,if_pos hneg]);obtain⟨u,hu⟩:∃u,iQ ds p s0=u:=⟨_,rfl⟩;rw[hu] at hneg hc0;have Zc:Hid (([]:List Int)=plan):=af (by rw[←AU.out,Nj.out];rfl);clear hu hbd;go_wp2;refine bodyPost_ret (v:=.tuple #[.slice none 0 0,.bool false]) (by simp[results,Tryz.results31,go_sem]) rfl ⟨.slice none 0 0,by rw[Nj.out];rfl,?_⟩;rw[←Zc.out];exact iE w _ iM.out.below
  ·obtain⟨m0,hm0⟩:=bI (show 0≤iQ ds p s0 by omega);have Uc:Bx (dK t=some (mW ds p m0 s0)):=Bx.mk (by rw[Ub.out,if_neg hneg,hm0,dD]);have HW0:Bx (([]:List Int)++mW ds p m0 s0=plan):=Bx.mk (by rw[←AU.out,Uc.out];rfl);have Bz:=Bx.mk hm0
   have Ud:m0≤31:=by
    have:=Ig (S:=p) gU.out lQ
    omega
   rw[hm0] at hc0;have fV:Hid (St w w4 [ah w.heap.size 26 #[.int .i64 s0,.slice G gn gc,.slice G' n' c'],ou (.slice RA n' RC) ds,aA (.slice (some ⟨g,0,none⟩) 32 sc) (eP ds p),aA (.slice none 0 0) []]):=af (iM.out.call (iE w4 w4 (ai _ _)));clear hneg hm0 hbd Ub iM;go_wp2
   go_loopw [6,7] (fun sv pv wr=>∃(s m:Nat) (pre:List Int) (x7:Value),x7=pv∧sv= .int .i64 s∧s<32∧Bx (iQ ds p s=(m:Int))∧pre.length+m≤31∧Bx (pre++mW ds p m s=plan)∧St w wr [ah w.heap.size 26 #[.int .i64 s0,.slice G gn gc,.slice G' n' c'],ou (.slice RA n' RC) ds,aA (.slice (some ⟨g,0,none⟩) 32 sc) (eP ds p),aA x7 pre]) (fun sv _ _=>(iQ ds p (intOf sv).toNat).toNat)
   case atStart=>exact⟨s0,m0,[],_,rfl,rfl,lQ,Bz,by simpa using Ud,HW0,fV.out⟩
   case round=>
    clear Bz HW0 fV hc0 Ud q4;obtain⟨s,m,pre,x7,rfl,rfl,hs,HV,hml,HW,M⟩:=hrel;have HM:=af M;obtain⟨hcs,-⟩:=M.qj 2 rfl (jo _ _) s _ (lM ds p s hs);rw[HV.out] at hcs;clear M
    rcases Nat.eq_zero_or_pos m with hm | hm
    ·subst hm;have HE:Hid (pre=plan):=af (by have:=HW.out;simpa[mW] using this);go_wp2;refine bodyPost_ret (v:=.tuple #[x7,.bool true]) (by simp[results,Tryz.results31,go_sem]) rfl ⟨x7,by rw[Uc.out];rfl,?_⟩;rw[←HE.out];exact HM.out.pick [3] (by decide) rfl rfl
    ·obtain⟨r,rfl⟩:∃r,m=r+1:=⟨m-1,by omega⟩;have Ue:Hid ((iQ ds p s).toNat=r+1):=af (rQ HV.out);go_wp2
     go_loopw [34,6,7] (fun i sv pv wr=>∃j:Nat,.int .i64 s=sv∧x7=pv∧j≤n'∧i= .int .i64 j∧Bx (pick (near ds p r) s (ds.drop j) j=pick (near ds p r) s ds 0)∧St w wr [ah w.heap.size 26 #[.int .i64 s0,.slice G gn gc,.slice G' n' c'],ou (.slice RA n' RC) ds,aA (.slice (some ⟨g,0,none⟩) 32 sc) (eP ds p),aA x7 pre]) (fun i _ _ _=>n'-(intOf i).toNat)
     case atStart=>exact⟨0,rfl,rfl,by omega,rfl,Bx.mk (by rw[List.drop_zero]),HM.out⟩
     case round=>
      clear HM hcs;obtain⟨j,rfl,rfl,hj,rfl,HP,M⟩:=hrel;have HM:=af M;clear M
      by_cases hlt:j<n'
      ·obtain⟨b,off,d,hRA,hb,hdk,hrow⟩:=BB (HRR.out _ _ HM.out) fF.out hlt;subst hRA;have HDK:=af hdk;have SS:=af hrow;have L8:=af (gU.out d (bU hdk));have HLEN:=af (fM d);have hix:=uz d s hs;obtain⟨R,hR⟩:∃R,rowOf d=R:=⟨_,rfl⟩;obtain⟨o,ho⟩:∃o,aX d s=o:=⟨_,rfl⟩;have HOC:Hid (∀v∈R,v.oneCell'=true):=af (by rw[←hR];simp[rowOf,Value.oneCell']);have HO:=af ho;rw[hR] at SS HLEN hix;rw[ho] at hix;have Zj:=af hix;have Nk:Hid (St w (wr.alloc (.cells R.toArray 108)) [ah w.heap.size 26 #[.int .i64 s0,.slice G gn gc,.slice G' n' c'],ou (.slice (some ⟨b,off,none⟩) n' RC) ds,aA (.slice (some ⟨g,0,none⟩) 32 sc) (eP ds p),aA x7 pre,ah wr.heap.size 108 R.toArray]):=af (HM.out.alloc R.toArray 108);clear hrow hdk hR ho hix;have En:Hid ((s:Int)<32):=af (by omega);have HSQ:Hid ((eP ds p)[s]? =some ((r:Int)+1)):=af (by rw[lM ds p s hs,HV.out];rfl)
       cases o with
       |none=>
        have Nl:=Bx.mk ((FP (f:=near ds p r) HDK.out HO.out).trans HP.out);have O9:Hid (R.toArray[s]? =some (.int .i64 (-1))):=af (by simpa[opt] using Zj.out)
        go_upto_region 13 with(first
         | (refine gB 108 (.tmp 37) rfl rfl 3 32 oZ b (off+j*32) R rfl (by rw[HLEN.out];exact kH) SS.out ?_)
         | (refine jB 108 (.tmp 9) (.tmp 38) rfl rfl _ R rfl rfl (by rw[HLEN.out];exact kH) (by rw[HLEN.out];rfl) HOC.out ?_))
        refine kS (σ:=Unit)
         (fun s0' i=>match i with
          |0=>.int .i64 (s:Int)
          |1=>.pointer (some ⟨wr.heap.size,s,none⟩)
          |2=>.int .i64 (-1)
          |3=>.bool false
          |4=>.bool false
          |17=>.bool false
          |_=>undef)
         (fun D s0' wx=>Sn w wx fun i=>match i with
          |0=>some (ah w.heap.size 26 #[.int .i64 s0,.slice G gn gc,.slice G' n' c'])
          |1=>some (ou (.slice (some ⟨b,off,none⟩) n' RC) ds)
          |2=>some (aA (.slice (some ⟨g,0,none⟩) 32 sc) (eP ds p))
          |3=>some (aA x7 pre)
          |4=>some (ah wr.heap.size 108 R.toArray)
          |_=>none)
         () ?_ ?_ ?_
        ·intro D hD;refine((Sn.eY Nk.out).quiet ((ai _ _).drew)).congr fun i=>?_
         match i with
         |0 | 1 | 2 | 3 | 4=>rfl
         |i+5=>rfl
        ·refine Cs (fun D s0' wx hR _ hd _ _ hs K hK=>?_) ?_
         ·have e6:=hs.o 6 (.int .i64 (s:Int));clear hs;go_simp;exact hK s0' wx (fun _ _=>rfl) hR
         refine Cs (fun D s0' wx hR _ hd _ _ hs K hK=>?_) ?_
         ·have e9:=hs.o 9 (.pointer (some ⟨wr.heap.size,0,none⟩));have e39:=hs.v 0 39 hd;clear hs;have hsI:=En.out;go_simp;exact hK s0' wx (fun _ _=>rfl) hR
         refine Cs (fun D s0' wx hR _ hd _ _ hs K hK=>?_) ?_
         ·have e40:=hs.v 1 40 hd;clear hs;have c9:wx.cell? ⟨wr.heap.size,s,none⟩=some (.int .i64 (-1)):=((hR.blk 4 rfl).cell s).trans O9.out;go_simp;exact hK s0' wx (fun _ _=>rfl) hR
         refine Cs (fun D s0' wx hR _ hd _ _ hs K hK=>?_) ?_
         ·have e41:=hs.v 2 41 hd;clear hs;go_simp;exact hK s0' wx (fun _ _=>rfl) hR
         refine Cs (fun D s0' wx hR _ hd _ _ hs K hK=>?_) ?_
         ·have e42:=hs.v 3 42 hd;clear hs;go_simp;exact hK s0' wx (fun _ _=>rfl) hR
         refine dw (fun D s0' wx hR _ hd _ _ hs K hK=>?_) ?_
         ·refine hs.iP 4 43 true hd ?_;exact hK s0' wx (fun _ _=>rfl) hR
         refine dw (fun D s0' wx hR _ hd _ _ hs K hK=>?_) ?_
         ·refine hs.iP 4 43 true hd ?_;exact hK s0' wx (fun _ _=>rfl) hR
         refine dw (fun D s0' wx hR _ hd _ _ hs K hK=>?_) ?_
         ·refine hs.iP 4 43 true hd ?_;exact hK s0' wx (fun _ _=>rfl) hR
         refine dw (fun D s0' wx hR _ hd _ _ hs K hK=>?_) ?_
         ·refine hs.iP 4 43 true hd ?_;exact hK s0' wx (fun _ _=>rfl) hR
         refine dw (fun D s0' wx hR _ hd _ _ hs K hK=>?_) ?_
         ·refine hs.iP 4 43 true hd ?_;exact hK s0' wx (fun _ _=>rfl) hR
         refine dw (fun D s0' wx hR _ hd _ _ hs K hK=>?_) ?_
         ·refine hs.iP 4 43 true hd ?_;exact hK s0' wx (fun _ _=>rfl) hR
         refine dw (fun D s0' wx hR _ hd _ _ hs K hK=>?_) ?_
         ·refine hs.iP 4 43 true hd ?_;exact hK s0' wx (fun _ _=>rfl) hR
         refine dw (fun D s0' wx hR _ hd _ _ hs K hK=>?_) ?_
         ·refine hs.iP 4 43 true hd ?_;exact hK s0' wx (fun _ _=>rfl) hR
         refine dw (fun D s0' wx hR _ hd _ _ hs K hK=>?_) ?_
         ·refine hs.iP 4 43 true hd ?_;exact hK s0' wx (fun _ _=>rfl) hR
         refine dw (fun D s0' wx hR _ hd _ _ hs K hK=>?_) ?_
         ·refine hs.iP 4 43 true hd ?_;exact hK s0' wx (fun _ _=>rfl) hR
         refine dw (fun D s0' wx hR _ hd _ _ hs K hK=>?_) ?_
         ·refine hs.iP 4 43 true hd ?_;exact hK s0' wx (fun _ _=>rfl) hR
         refine dw (fun D s0' wx hR _ hd _ _ hs K hK=>?_) ?_
         ·refine hs.iP 4 43 true hd ?_;exact hK s0' wx (fun _ _=>rfl) hR
         refine Cs (fun D s0' wx hR _ hd _ _ hs K hK=>?_) ?_
         ·have e43:=hs.v 4 43 hd;have e55:=hs.v 16 55 hd;clear hs;go_simp;exact hK s0' wx (fun _ _=>rfl) hR
         exact au.nil
        ·intro D s0' wx hR hD;simp only[eG,Act.put,aO,aS,aV];have HT:Hid (St w wx [ah w.heap.size 26 #[.int .i64 s0,.slice G gn gc,.slice G' n' c'],ou (.slice (some ⟨b,off,none⟩) n' RC) ds,aA (.slice (some ⟨g,0,none⟩) 32 sc) (eP ds p),aA x7 pre,ah wr.heap.size 108 R.toArray]):=af (hR.fO [0,1,2,3,4] (by decide) rfl);clear hR hD;go_wp2
         go_roundw
         case rel=>exact⟨j+1,rfl,rfl,by omega,by go_num,Nl,HT.out.pick [0,1,2,3] (by decide) rfl rfl⟩
         case measure=>simp[intOf];omega
       |some q=>
        have hq:=gu d s q L8.out hs HO.out;have HQI:Hid ((q:Int)<32):=af (by omega);have HWR:Hid (IntKind.i64.wrap (r:Int)=(r:Int)):=af (by rw[IntKind.wrap_i64];omega);have O9:Hid (R.toArray[s]? =some (.int .i64 (q:Int))):=af (by simpa[opt] using Zj.out);obtain⟨vq,hvq⟩:∃vq,iQ ds p q=vq:=⟨_,rfl⟩;have HQ:Hid ((eP ds p)[q]? =some vq):=af (by rw[lM ds p q hq,hvq]);obtain⟨bv,hbv⟩:∃bv,(vq == (r:Int))=bv:=⟨_,rfl⟩;have HBV:=af hbv;have HNR:Hid (near ds p r q=bv):=af (by unfold near;rw[hvq,hbv]);have HVQ:=Bx.mk hvq;clear hvq hbv
        go_upto_region 13 with(first
         | (refine gB 108 (.tmp 37) rfl rfl 3 32 oZ b (off+j*32) R rfl (by rw[HLEN.out];exact kH) SS.out ?_)
         | (refine jB 108 (.tmp 9) (.tmp 38) rfl rfl _ R rfl rfl (by rw[HLEN.out];exact kH) (by rw[HLEN.out];rfl) HOC.out ?_))
        refine kS (σ:=Unit)
         (fun s0' i=>match i with
          |0=>.int .i64 (s:Int)
          |1=>.pointer (some ⟨wr.heap.size,s,none⟩)
          |2=>.int .i64 (q:Int)
          |3=>.bool true
          |4=>.bool true
          |5=>.slice (some ⟨g,0,none⟩) 32 sc
          |6=>.int .i64 (s:Int)
          |7=>.pointer (some ⟨wr.heap.size,s,none⟩)
          |8=>.int .i64 (q:Int)
          |9=>.pointer (some ⟨g,q,none⟩)
          |10=>.int .i64 vq
          |11=>.slice (some ⟨g,0,none⟩) 32 sc
          |12=>.int .i64 (s:Int)
          |13=>.pointer (some ⟨g,s,none⟩)
          |14=>.int .i64 ((r:Int)+1)
          |15=>.int .i64 (r:Int)
          |16=>.bool bv
          |17=>.bool bv
          |_=>undef)
         (fun D s0' wx=>Sn w wx fun i=>match i with
          |0=>some (ah w.heap.size 26 #[.int .i64 s0,.slice G gn gc,.slice G' n' c'])
          |1=>some (ou (.slice (some ⟨b,off,none⟩) n' RC) ds)
          |2=>some (aA (.slice (some ⟨g,0,none⟩) 32 sc) (eP ds p))
          |3=>some (aA x7 pre)
          |4=>some (ah wr.heap.size 108 R.toArray)
          |_=>none)
         () ?_ ?_ ?_
        ·intro D hD;refine((Sn.eY Nk.out).quiet ((ai _ _).drew)).congr fun i=>?_
         match i with
         |0 | 1 | 2 | 3 | 4=>rfl
         |i+5=>rfl
        ·refine Cs (fun D s0' wx hR _ hd _ _ hs K hK=>?_) ?_
         ·have e6:=hs.o 6 (.int .i64 (s:Int));clear hs;go_simp;exact hK s0' wx (fun _ _=>rfl) hR
         refine Cs (fun D s0' wx hR _ hd _ _ hs K hK=>?_) ?_
         ·have e9:=hs.o 9 (.pointer (some ⟨wr.heap.size,0,none⟩));have e39:=hs.v 0 39 hd;clear hs;have hsI:=En.out;go_simp;exact hK s0' wx (fun _ _=>rfl) hR
         refine Cs (fun D s0' wx hR _ hd _ _ hs K hK=>?_) ?_
         ·have e40:=hs.v 1 40 hd;clear hs;have c9:wx.cell? ⟨wr.heap.size,s,none⟩=some (.int .i64 (q:Int)):=((hR.blk 4 rfl).cell s).trans O9.out;go_simp;exact hK s0' wx (fun _ _=>rfl) hR
         refine Cs (fun D s0' wx hR _ hd _ _ hs K hK=>?_) ?_
         ·have e41:=hs.v 2 41 hd;clear hs;go_simp;exact hK s0' wx (fun _ _=>rfl) hR
         refine Cs (fun D s0' wx hR _ hd _ _ hs K hK=>?_) ?_
         ·have e42:=hs.v 3 42 hd;clear hs;go_simp;exact hK s0' wx (fun _ _=>rfl) hR
         refine dw (fun D s0' wx hR _ hd _ _ hs K hK=>?_) ?_
         ·refine hs.yes 4 43 true hd ?_;have e5:=hs.o 5 (.slice (some ⟨g,0,none⟩) 32 sc);clear hs;go_simp;exact hK s0' wx (fun _ _=>rfl) hR
         refine dw (fun D s0' wx hR _ hd _ _ hs K hK=>?_) ?_
         ·refine hs.yes 4 43 true hd ?_;have e6:=hs.o 6 (.int .i64 (s:Int));clear hs;go_simp;exact hK s0' wx (fun _ _=>rfl) hR
         refine dw (fun D s0' wx hR _ hd _ _ hs K hK=>?_) ?_
         ·refine hs.yes 4 43 true hd ?_;have e9:=hs.o 9 (.pointer (some ⟨wr.heap.size,0,none⟩));have e45:=hs.v 6 45 hd;clear hs;have hsI:=En.out;go_simp;exact hK s0' wx (fun _ _=>rfl) hR
         refine dw (fun D s0' wx hR _ hd _ _ hs K hK=>?_) ?_
         ·refine hs.yes 4 43 true hd ?_;have e46:=hs.v 7 46 hd;clear hs;have c9:wx.cell? ⟨wr.heap.size,s,none⟩=some (.int .i64 (q:Int)):=((hR.blk 4 rfl).cell s).trans O9.out;go_simp;exact hK s0' wx (fun _ _=>rfl) hR
         refine dw (fun D s0' wx hR _ hd _ _ hs K hK=>?_) ?_
         ·refine hs.yes 4 43 true hd ?_;have e44:=hs.v 5 44 hd;have e47:=hs.v 8 47 hd;clear hs;have hqI:=HQI.out;go_simp;exact hK s0' wx (fun _ _=>rfl) hR
         refine dw (fun D s0' wx hR _ hd _ _ hs K hK=>?_) ?_
         ·refine hs.yes 4 43 true hd ?_;have e48:=hs.v 9 48 hd;clear hs;have cq:wx.cell? ⟨g,q,none⟩=some (.int .i64 vq):=(hR.qj 2 rfl (jo _ _) q _ HQ.out).1;go_simp;exact hK s0' wx (fun _ _=>rfl) hR
         refine dw (fun D s0' wx hR _ hd _ _ hs K hK=>?_) ?_
         ·refine hs.yes 4 43 true hd ?_;have e5:=hs.o 5 (.slice (some ⟨g,0,none⟩) 32 sc);clear hs;go_simp;exact hK s0' wx (fun _ _=>rfl) hR
         refine dw (fun D s0' wx hR _ hd _ _ hs K hK=>?_) ?_
         ·refine hs.yes 4 43 true hd ?_;have e6:=hs.o 6 (.int .i64 (s:Int));clear hs;go_simp;exact hK s0' wx (fun _ _=>rfl) hR
         refine dw (fun D s0' wx hR _ hd _ _ hs K hK=>?_) ?_
         ·refine hs.yes 4 43 true hd ?_;have e50:=hs.v 11 50 hd;have e51:=hs.v 12 51 hd;clear hs;have hsI:=En.out;go_simp;exact hK s0' wx (fun _ _=>rfl) hR
         refine dw (fun D s0' wx hR _ hd _ _ hs K hK=>?_) ?_
         ·refine hs.yes 4 43 true hd ?_;have e52:=hs.v 13 52 hd;clear hs;have cs:wx.cell? ⟨g,s,none⟩=some (.int .i64 ((r:Int)+1)):=(hR.qj 2 rfl (jo _ _) s _ HSQ.out).1;go_simp;exact hK s0' wx (fun _ _=>rfl) hR
         refine dw (fun D s0' wx hR _ hd _ _ hs K hK=>?_) ?_
         ·refine hs.yes 4 43 true hd ?_;have e53:=hs.v 14 53 hd;clear hs;go_simp;rw[HWR.out];exact hK s0' wx (fun _ _=>rfl) hR
         refine dw (fun D s0' wx hR _ hd _ _ hs K hK=>?_) ?_
         ·refine hs.yes 4 43 true hd ?_;have e49:=hs.v 10 49 hd;have e54:=hs.v 15 54 hd;clear hs;have hbv:=HBV.out;go_simp;exact hK s0' wx (fun _ _=>rfl) hR
         refine Cs (fun D s0' wx hR _ hd _ _ hs K hK=>?_) ?_
         ·have e43:=hs.v 4 43 hd;have e55:=hs.v 16 55 hd;clear hs;go_simp;exact hK s0' wx (fun _ _=>rfl) hR
         exact au.nil
        ·intro D s0' wx hR hD;simp only[eG,Act.put,aO,aS,aV];have HT:Hid (St w wx [ah w.heap.size 26 #[.int .i64 s0,.slice G gn gc,.slice G' n' c'],ou (.slice (some ⟨b,off,none⟩) n' RC) ds,aA (.slice (some ⟨g,0,none⟩) 32 sc) (eP ds p),aA x7 pre,ah wr.heap.size 108 R.toArray]):=af (hR.fO [0,1,2,3,4] (by decide) rfl);clear hR hD
         cases bv with
         |false=>
          have Nl:=Bx.mk ((J9 (f:=near ds p r) HDK.out HO.out HNR.out).trans HP.out);go_wp2
          go_roundw
          case rel=>exact⟨j+1,rfl,rfl,by omega,by go_num,Nl,HT.out.pick [0,1,2,3] (by decide) rfl rfl⟩
          case measure=>simp[intOf];omega
         |true=>
          have HPK:=Bx.mk (HP.out.symm.trans (Ko (f:=near ds p r) HDK.out HO.out HNR.out));have HW2:=Bx.mk (FQ HW.out HPK.out);have hvr:vq=(r:Int):=by simpa using HBV.out
          have XV:Bx (iQ ds p q=(r:Int)):=Bx.mk (HVQ.out.trans hvr);have qy:=af (HT.out.rU 3 rfl)
          have QG:Hid (∀v3 w3,w3.ownsRow 0 3 1 v3 (pre.length+1) (ints pre++[Value.int .i64 (j:Int)])→(wx.alloc (.cells #[.int .i64 (j:Int)] 3)).grownBy w3 x7.ownBlock→(v3.ownBlock=x7.ownBlock∨v3.ownBlock=some (wx.alloc (.cells #[.int .i64 (j:Int)] 3)).heap.size)→
            St w w3 [ah w.heap.size 26 #[.int .i64 s0,.slice G gn gc,.slice G' n' c'],ou (.slice (some ⟨b,off,none⟩) n' RC) ds,aA (.slice (some ⟨g,0,none⟩) 32 sc) (eP ds p),aA v3 (pre++[(j:Int)]),ah wr.heap.size 108 R.toArray]):=
           af fun v3 w3 h1 h2 h3=>St.vP (v:=x7) (xs:=pre) (ys:=[(j:Int)]) ((HT.out.alloc #[.int .i64 (j:Int)] 3).pick [0,1,2,3,4] (by decide) rfl rfl) 3 rfl rfl h1 (by intro y hy;simp at hy;subst hy;exact dU (by omega)) h2 h3
          have Np:Hid ((iQ ds p q).toNat=r):=af (rQ XV.out);have hsz:0≤wx.heap.size:=Nat.zero_le _;clear hvr
          go_wp2_with (at_builtin;refine dX jv rfl _ _ rfl 0 x7 pre.length (ints pre) rfl (qy.out.alloc _) _ _ 1 1 [.int .i64 (j:Int)] rfl (bQ.new wx [.int .i64 (j:Int)] 3 1 1 rfl (by unfold maxLen;omega)) (by simp[Value.oneCell']) (by omega) (by omega) (Nat.zero_le _) ?_;intro v3 w3 hown3 hg3 uo;have oJ:=af (QG.out v3 w3 hown3 hg3 uo);have c9:w3.cell? ⟨wr.heap.size,s,none⟩=some (.int .i64 (q:Int)):=((oJ.out.blk 4 rfl).cell s).trans O9.out)
          go_wp2
          go_roundw
          case rel=>exact⟨q,r,pre++[(j:Int)],v3,rfl,rfl,hq,XV,by simp;omega,HW2,oJ.out.pick [0,1,2,3] (by decide) rfl rfl⟩
          case measure=>
           show(iQ ds p q).toNat<(iQ ds p s).toNat
           have h1:=Ue.out;have h2:=Np.out
           omega
      ·exact(FT gU.out hs HV.out (by
       have:=HP.out
       rw[List.drop_of_length_le (by rw[fF.out];omega)] at this
       exact this.symm)).elim
end Go.Proofs.YtkmcengmglgdeaaGreatDoor
