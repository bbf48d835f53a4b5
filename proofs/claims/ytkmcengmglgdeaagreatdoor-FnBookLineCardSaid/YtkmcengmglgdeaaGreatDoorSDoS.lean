/- A part of the proof: DoS. -/
import Derived.Test.YtkmcengmglgdeaaGreatDoorSDoI
import Derived.Test.YtkmcengmglgdeaaGreatDoorSShortS
namespace Go.Proofs.YtkmcengmglgdeaaGreatDoor
set_option linter.unusedVariables false
set_option linter.unusedSimpArgs false
set_option maxRecDepth 100000
set_option maxHeartbeats 8000000
open Go.ChangeShapes Go.WideShapes Go.ChangeAt Go.RowKit
theorem AO (t:aB) (h:aK t=true):o8 t=⟨t,[],t.start⟩:=by unfold o8;rw[if_pos h]
theorem eP (v:Value) (b:aG) (A:Option Addr) (n c:Nat) (xs:List Int) (w:World) (h:RdB w w.heap.size v b) (hok:aK b.order=true) (hx:jd .i64 w w.heap.size A n c xs) (hn:n≤1000):
  Calls Tryz.prog 51 #[v,.slice A n c] w (Gives w id fun v'=>[aI v' (eX b xs)]):=by
 obtain⟨G,gn,gc,G',n',c',D',dn,dc,hv⟩:=h.form;subst hv;obtain⟨hdn,hdl,hst,-⟩:=h.done;obtain⟨os,hos⟩:∃x,b.order.start=x:=⟨_,rfl⟩;obtain⟨st,ja⟩:∃x,b.state=x:=⟨_,rfl⟩;have HO:=af h.order;have nP:=Bx.mk hos;have HX:=af hx;have Vy:Hid (xs.length=n):=af hx.len;have HXW:=af hx.wf;have bG:=Bx.mk hok;obtain⟨z,hz⟩:∃z,aC b.order os xs=z:=⟨_,rfl⟩;have HZ:=Bx.mk hz;have HE:Bx (eX b xs=⟨b.order,xs,z⟩):=Bx.mk (by unfold eX;rw[hos,hz])
 have hzw:(Lit.int .i64 z).wf=true:=by
  have h1:=(fE b.order os xs).2;have h2:=(fE b.order os xs).1;rw[hz] at h1 h2
  rcases Int.lt_or_le z 0 with h | h
  ·exact bU (by omega)
  ·exact bU (by have:=(h2 h).2.2.2;omega)
 rw[hos] at HO;rw[hos,ja]
 have S0:St w ((w.alloc (Obj.cells #[.int .i64 os,.slice G gn gc,.slice G' n' c',.slice D' dn dc,.int .i64 st] 28)).alloc (Obj.cells #[.int .i64 0,.slice none 0 0,.slice none 0 0,.slice none 0 0,.int .i64 0] 28)) [ah w.heap.size 28 #[.int .i64 os,.slice G gn gc,.slice G' n' c',.slice D' dn dc,.int .i64 st],ah (w.heap.size+1) 28 #[.int .i64 0,.slice none 0 0,.slice none 0 0,.slice none 0 0,.int .i64 0]]:=by
  have:=((St.refl w).alloc #[.int .i64 os,.slice G gn gc,.slice G' n' c',.slice D' dn dc,.int .i64 st] 28).alloc #[.int .i64 0,.slice none 0 0,.slice none 0 0,.slice none 0 0,.int .i64 0] 28
  simpa using this
 have aS:=af S0;clear S0 hdn h hos ja hst hok hx hz;go_enter Tryz.func51,Tryz.ntmps51
 go_wp2_with fail
 refine(rX _ b.order _ (HO.out.up aS.out.below)).mono ?_;rw[AO b.order bG.out];rintro e w1 ⟨v1,rfl,s1⟩;obtain⟨A1,n1,c1,A2,n2,c2,A3,n3,c3,hv⟩:=s1.gU 0 rfl;simp only[id_eq,nP.out] at hv ⊢
 subst hv;obtain⟨g1,hg1⟩:∃g,w1.heap.size=g:=⟨_,rfl⟩;have bf:Hid (St w (w1.alloc (.cells #[.int .i64 os,.slice A1 n1 c1,.slice A2 n2 c2,.slice A3 n3 c3,.int .i64 os] 28)) [ah w.heap.size 28 #[.int .i64 os,.slice G gn gc,.slice G' n' c',.slice D' dn dc,.int .i64 st],ah (w.heap.size+1) 28 #[.int .i64 0,.slice none 0 0,.slice none 0 0,.slice none 0 0,.int .i64 0],aI (.agg #[.int .i64 os,.slice A1 n1 c1,.slice A2 n2 c2,.slice A3 n3 c3,.int .i64 os]) ⟨b.order,[],os⟩,ah g1 28 #[.int .i64 os,.slice A1 n1 c1,.slice A2 n2 c2,.slice A3 n3 c3,.int .i64 os]]):=af (by rw[←hg1];have:=(aS.out.call s1).alloc #[.int .i64 os,.slice A1 n1 c1,.slice A2 n2 c2,.slice A3 n3 c3,.int .i64 os] 28;rw[nP.out] at this;exact this);clear s1 aS;have HS2:Hid (St w ((w1.alloc (.cells #[.int .i64 os,.slice A1 n1 c1,.slice A2 n2 c2,.slice A3 n3 c3,.int .i64 os] 28)).alloc (.cells #[] 3)) [ah w.heap.size 28 #[.int .i64 os,.slice G gn gc,.slice G' n' c',.slice D' dn dc,.int .i64 st],ah (w.heap.size+1) 28 #[.int .i64 0,.slice none 0 0,.slice none 0 0,.slice none 0 0,.int .i64 0],aI (.agg #[.int .i64 os,.slice A1 n1 c1,.slice A2 n2 c2,.slice A3 n3 c3,.int .i64 os]) ⟨b.order,[],os⟩,ah g1 28 #[.int .i64 os,.slice A1 n1 c1,.slice A2 n2 c2,.slice A3 n3 c3,.int .i64 os],ax (.slice (some ⟨g1+1,0,none⟩) 0 0) []]):=af (bf.out.call (St.yA _ (g1+1) (by simp[hg1])));have HO4:Hid (((w1.alloc (.cells #[.int .i64 os,.slice A1 n1 c1,.slice A2 n2 c2,.slice A3 n3 c3,.int .i64 os] 28)).alloc (.cells #[] 3)).ownsRow 0 3 1 (.slice (some ⟨g1+1,0,none⟩) 0 0) 0 (ints [])):=af (HS2.out.qA 4 rfl);have HXR:=af (HX.out.up HS2.out.below).row;clear bf
 try rw[hg1]
 go_wp2_with (at_builtin;refine cZ iR rfl _ _ rfl 0 (.slice (some ⟨g1+1,0,none⟩) 0 0) 0 (ints []) rfl HO4.out _ A n c (ints xs) rfl HXR.out (gG _) (by omega) (by omega) (Nat.zero_le _) ?_;intro v2 w2 hown2 hg2 ug;obtain⟨A4,c4,hv⟩:=dR hown2;rw[Nat.zero_add] at hv;subst hv;have cu:Hid (St w w2 [ah w.heap.size 28 #[.int .i64 os,.slice G gn gc,.slice G' n' c',.slice D' dn dc,.int .i64 st],ah (w.heap.size+1) 28 #[.int .i64 0,.slice none 0 0,.slice none 0 0,.slice none 0 0,.int .i64 0],aI (.agg #[.int .i64 os,.slice A1 n1 c1,.slice A2 n2 c2,.slice A3 n3 c3,.int .i64 os]) ⟨b.order,[],os⟩,ah g1 28 #[.int .i64 os,.slice A1 n1 c1,.slice A2 n2 c2,.slice A3 n3 c3,.int .i64 os],ax (.slice A4 n c4) xs]):=af (by have:=HS2.out.rY (ys:=xs) 4 rfl (by rw[Vy.out];rfl) hown2 HXW.out hg2 ug;exact this);clear hown2 hg2 ug HS2 HO4 HXR;have q3:w2.cell? ⟨g1,3,none⟩=some (.slice A3 n3 c3):=cu.out.cells 3 rfl 3;have f3:=cu.out.free 3 rfl;have fH:Hid (St w (w2.setCell ⟨g1,3,none⟩ (.slice A4 n c4)) [ah w.heap.size 28 #[.int .i64 os,.slice G gn gc,.slice G' n' c',.slice D' dn dc,.int .i64 st],ah (w.heap.size+1) 28 #[.int .i64 0,.slice none 0 0,.slice none 0 0,.slice none 0 0,.int .i64 0],aI (.agg #[.int .i64 os,.slice A1 n1 c1,.slice A2 n2 c2,.slice A3 n3 c3,.int .i64 os]) ⟨b.order,[],os⟩,ah g1 28 #[.int .i64 os,.slice A1 n1 c1,.slice A2 n2 c2,.slice A4 n c4,.int .i64 os],ax (.slice A4 n c4) xs]):=af (cu.out.set 3 rfl 3 _);have p4:∀j,(w2.setCell ⟨g1,3,none⟩ (.slice A4 n c4)).cell? ⟨w.heap.size,j,none⟩=_:=fH.out.cells 0 rfl;clear cu)
 refine(jy _ b.order os A n c xs _ (HO.out.up fH.out.below) (HX.out.up fH.out.below)).mono ?_;rw[HZ.out];rintro e w5 ⟨rfl,hb5⟩;have dX:=af (fH.out.quiet hb5);have q5:w5.cell? ⟨g1,4,none⟩=some (.int .i64 os):=dX.out.cells 3 rfl 4;have f5:=dX.out.free 3 rfl;clear hb5 p4 q3 f3 fH
 go_upto_region 4 with(fail)
 have jB:Hid (St w (w5.setCell ⟨g1,4,none⟩ (.int .i64 z)) [ah w.heap.size 28 #[.int .i64 os,.slice G gn gc,.slice G' n' c',.slice D' dn dc,.int .i64 st],ah (w.heap.size+1) 28 #[.int .i64 0,.slice none 0 0,.slice none 0 0,.slice none 0 0,.int .i64 0],aI (.agg #[.int .i64 os,.slice A1 n1 c1,.slice A2 n2 c2,.slice A3 n3 c3,.int .i64 os]) ⟨b.order,[],os⟩,ah g1 28 #[.int .i64 os,.slice A1 n1 c1,.slice A2 n2 c2,.slice A4 n c4,.int .i64 z],ax (.slice A4 n c4) xs]):=af (dX.out.set 3 rfl 4 _);clear dX q5 f5;obtain⟨w6,hw6⟩:∃x,w5.setCell ⟨g1,4,none⟩ (.int .i64 z)=x:=⟨_,rfl⟩;rw[hw6] at jB ⊢
 clear hw6;have r4:=jB.out.cells 3 rfl;have r5:=jB.out.cells 1 rfl;have s5:=jB.out.free 1 rfl;go_wp2;have je:=af (jB.out.fF 1 rfl (.int .i64 os) (.slice A1 n1 c1) (.slice A2 n2 c2) (.slice A4 n c4) (.int .i64 z));have q7:=je.out.cells 1 rfl;refine bodyPost_ret (v:=.agg #[.int .i64 os,.slice A1 n1 c1,.slice A2 n2 c2,.slice A4 n c4,.int .i64 z]) (by simp[results,Tryz.results51,go_sem,q7]) rfl ⟨_,rfl,?_⟩;rw[HE.out]
 have:=je.out.pick [2,4] (by decide) rfl rfl
 exact((this.Dj.pick (L':=[lI (.agg #[.int .i64 os,.slice A1 n1 c1,.slice A2 n2 c2]) b.order,ax (.slice A4 n c4) xs]) [0,2] (by decide) rfl rfl)).book' nP.out (by rw[Vy.out];omega) hzw
theorem uy (v:Value) (b:aG) (k m:Int) (w:World) (h:RdB w w.heap.size v b) (hmw:(Lit.int .i64 m).wf=true):
  Calls Tryz.prog 56 #[v,.agg #[.int .i64 k,.int .i64 m]] w (Gives w (fun v=>.tuple #[v,.bool (eY b ⟨k,m⟩)]) fun v=>[aI v (dY b ⟨k,m⟩)]):=by
 obtain⟨G,gn,gc,G',n',c',D',dn,dc,hv⟩:=h.form;subst hv;obtain⟨hdn,hdl,hst,-⟩:=h.done;have aby:=hdn.cap;have ZW:=hdn.dw
 unfold maxLen at ZW
 obtain⟨os,hos⟩:∃x,b.order.start=x:=⟨_,rfl⟩;obtain⟨st,ja⟩:∃x,b.state=x:=⟨_,rfl⟩;have lV:=af h;have HO:=af h.order;have HD:=af hdn;have gy:Hid (b.done.length=dn):=af hdn.len;have HDW:=af hdn.wf;have nP:=Bx.mk hos;have kK:=Bx.mk ja;have YF:=af hmw;rw[hos] at HO;rw[hos,ja] at lV;rw[hos,ja]
 have S0:St w (((w.alloc (Obj.cells #[.int .i64 os,.slice G gn gc,.slice G' n' c',.slice D' dn dc,.int .i64 st] 28)).alloc (Obj.cells #[.int .i64 k,.int .i64 m] 64)).alloc (Obj.cells #[.int .i64 0,.slice none 0 0,.slice none 0 0,.slice none 0 0,.int .i64 0] 28)) [ah w.heap.size 28 #[.int .i64 os,.slice G gn gc,.slice G' n' c',.slice D' dn dc,.int .i64 st],ah (w.heap.size+1) 64 #[.int .i64 k,.int .i64 m],ah (w.heap.size+2) 28 #[.int .i64 0,.slice none 0 0,.slice none 0 0,.slice none 0 0,.int .i64 0]]:=by
  have:=(((St.refl w).alloc #[.int .i64 os,.slice G gn gc,.slice G' n' c',.slice D' dn dc,.int .i64 st] 28).alloc #[.int .i64 k,.int .i64 m] 64).alloc #[.int .i64 0,.slice none 0 0,.slice none 0 0,.slice none 0 0,.int .i64 0] 28
  simpa using this
 have aS:=af S0;obtain⟨bo,hok⟩:∃x,aN b=x:=⟨_,rfl⟩;have bG:=Bx.mk hok;clear S0 hdn h hos ja hst hok hmw
 cases bo with
 |false=>
  obtain⟨e1,e2⟩:=xu (a:=⟨k,m⟩) bG.out;have ZU:=Bx.mk e1;have HE2:=Bx.mk e2;clear e1 e2;go_enter Tryz.func56,Tryz.ntmps56
  go_wp2_with fail
  refine(dM _ b _ (lV.out.up aS.out.below)).mono ?_;rw[bG.out];rintro e w1 ⟨rfl,hb1⟩;have bf:=af (aS.out.quiet hb1);have q1:=bf.out.cells 2 rfl;have f1:=bf.out.free 2 rfl;clear hb1;go_wp2;refine bodyPost_ret (v:=.tuple #[.agg #[.int .i64 0,.slice none 0 0,.slice none 0 0,.slice none 0 0,.int .i64 0],.bool false]) (by simp[results,Tryz.results56,go_sem,q1]) rfl ⟨.agg #[.int .i64 0,.slice none 0 0,.slice none 0 0,.slice none 0 0,.int .i64 0],by rw[HE2.out],?_⟩;rw[ZU.out];exact St.book0 (bf.out.fF 2 rfl _ _ _ _ _).below
 |true=>
  have um:=Bx.mk (bF bG.out).1;have zM:dn≤40:=by rw[←gy.out];exact(bF bG.out).2.1
  obtain⟨sh,hsh⟩:∃x,(fK b.order b.done).getD []=x:=⟨_,rfl⟩;have Rz:=Bx.mk hsh;have WZ:Bx ((fK b.order b.done).isSome=true):=Bx.mk (by rw[mX bG.out];rfl);obtain⟨sl,hsl⟩:∃x,sh.length=x:=⟨_,rfl⟩;have KZ:=Bx.mk hsl
  have abA:sl≤40:=by
   rw[←hsl,←hsh,mX bG.out];exact Nat.le_trans (DI ..) (by rw[gy.out];exact zM)
  obtain⟨rest,hrest⟩:∃x,(dB b).getD []=x:=⟨_,rfl⟩;have HRE:=Bx.mk hrest;obtain⟨rl,hrl⟩:∃x,rest.length=x:=⟨_,rfl⟩;have HRL:=Bx.mk hrl;obtain⟨rs,hrs⟩:∃x,(dB b).isSome=x:=⟨_,rfl⟩;have HRS:=Bx.mk hrs
  have abB:rl≤31:=by
   rw[←hrl,←hrest]
   cases hr:dB b with
   |none=>simp
   |some r=>exact(qI hr).2.1
  have ad3:rs=false→rl=0:=fun h=>by
   rw[←hrl,←hrest]
   cases hr:dB b with
   |none=>rfl
   |some r=>rw[hr] at hrs;rw[←hrs] at h;cases h
  clear hsh hsl hrest hrl hrs;have ad4:∀(QQ:Exit→Act→World→Prop),True:=fun _=>trivial
  clear ad4;go_enter Tryz.func56,Tryz.ntmps56
  go_wp2_with fail
  refine(dM _ b _ (lV.out.up aS.out.below)).mono ?_;rw[bG.out];rintro e w1 ⟨rfl,hb1⟩;have bf:=af (aS.out.quiet hb1);have q1:=bf.out.cells 0 rfl;clear hb1 aS
  go_wp2_with fail
  refine(Em _ b.order D' dn dc b.done _ (HO.out.up bf.out.below) (HD.out.up bf.out.below)).mono ?_;rw[Rz.out,WZ.out];rintro e w2 ⟨v2,rfl,s2⟩;obtain⟨A6,c6,hv6,-⟩:=s2.uj 0 rfl;rw[KZ.out] at hv6;subst hv6;have HS2:=af (bf.out.call s2);have q2:=HS2.out.cells 0 rfl;clear s2 q1 bf
  go_wp2_with fail
  refine(sQ _ b _ (lV.out.up HS2.out.below)).mono ?_;rw[HRE.out,HRS.out];rintro e w3 ⟨v3,rfl,s3⟩;obtain⟨A8,c8,Ub,-⟩:=s3.uj 0 rfl;rw[HRL.out] at Ub;subst Ub;have cu:Hid (St w w3 [ah w.heap.size 28 #[.int .i64 os,.slice G gn gc,.slice G' n' c',.slice D' dn dc,.int .i64 st],ah (w.heap.size+1) 64 #[.int .i64 k,.int .i64 m],ah (w.heap.size+2) 28 #[.int .i64 0,.slice none 0 0,.slice none 0 0,.slice none 0 0,.int .i64 0],ax (.slice A6 sl c6) sh,ax (.slice A8 rl c8) rest]):=af (HS2.out.call s3);clear s3 q2 HS2
  by_cases h0:k=0
  ·subst h0;obtain⟨may,hmay⟩:∃x,dO b.order st=x:=⟨_,rfl⟩;have DC:=Bx.mk hmay;obtain⟨bm,hbm⟩:∃x,decide (m∈may)=x:=⟨_,rfl⟩;have WY:=Bx.mk hbm;clear hmay hbm
   cases bm with
   |false=>
    have HN:Bx (aZ b ⟨0,m⟩=none):=Bx.mk (by rw[Gv,if_neg (by rw[kK.out,DC.out];exact fun h=>of_decide_eq_false WY.out h.2)])
    go_upto_region 5 with(fail)
    refine kG (σ:=Option Addr×Nat)
     (fun s i=>match i with
      |0=>.pointer (some ⟨(w.heap.size+1),0,none⟩)
      |1=>.int .i64 0
      |2=>.bool true
      |3=>.bool true
      |4=>.pointer (some ⟨w.heap.size,0,none⟩)
      |5=>.agg #[.int .i64 os,.slice G gn gc,.slice G' n' c']
      |6=>.pointer (some ⟨w.heap.size,4,none⟩)
      |7=>.int .i64 st
      |8=>.slice s.1 may.length s.2
      |9=>.pointer (some ⟨(w.heap.size+1),1,none⟩)
      |10=>.int .i64 m
      |11=>.bool false
      |12=>.bool false
      |13=>.bool false
      |18=>.bool false
      |19=>.bool false
      |_=>undef)
     (fun D s wx=>Sn w wx fun i=>match i with
      |0=>some (ah w.heap.size 28 #[.int .i64 os,.slice G gn gc,.slice G' n' c',.slice D' dn dc,.int .i64 st])
      |1=>some (ah (w.heap.size+1) 64 #[.int .i64 0,.int .i64 m])
      |2=>some (ah (w.heap.size+2) 28 #[.int .i64 0,.slice none 0 0,.slice none 0 0,.slice none 0 0,.int .i64 0])
      |3=>some (ax (.slice A6 sl c6) sh)
      |4=>some (ax (.slice A8 rl c8) rest)
      |5=>if D 8=true then some (ax (.slice s.1 may.length s.2) may) else none
      |_=>none)
     (none,0) ?_ ?_ ?_
    ·intro D hD;refine((Sn.dN cu.out).quiet ((ai _ _).drew)).congr fun i=>?_
     match i with
     |0 | 1 | 2 | 3 | 4=>rfl
     |5=>simp only[hD 8 (by decide)];rfl
     |q+6=>rfl
    ·refine Cs (fun D s wx hR _ hd _ _ hs K hK=>?_) ?_
     ·have e3:=hs.o 3 (.pointer (some ⟨(w.heap.size+1),0,none⟩));clear hs;go_simp;exact hK s wx sv hR
     refine Cs (fun D s wx hR _ hd _ _ hs K hK=>?_) ?_
     ·have e28:=hs.v 0 28 hd;clear hs;have qk:=(hR.blk 1 rfl).cell;go_simp;exact hK s wx sv hR
     refine Cs (fun D s wx hR _ hd _ _ hs K hK=>?_) ?_
     ·have e29:=hs.v 1 29 hd;clear hs;go_simp;exact hK s wx sv hR
     refine Cs (fun D s wx hR _ hd _ _ hs K hK=>?_) ?_
     ·have e30:=hs.v 2 30 hd;clear hs;go_simp;exact hK s wx sv hR
     refine dJ (fun D s wx hR _ hd _ _ hs K hK=>?_) ?_
     ·refine hs.yes 3 31 true hd ?_;have e2:=hs.o 2 (.pointer (some ⟨w.heap.size,0,none⟩));clear hs;go_simp;exact hK s wx sv hR
     refine dJ (fun D s wx hR _ hd _ _ hs K hK=>?_) ?_
     ·refine hs.yes 3 31 true hd ?_;have e32:=hs.v 4 32 hd;clear hs;have qk:=(hR.blk 0 rfl).cell;go_simp;exact hK s wx sv hR
     refine dJ (fun D s wx hR _ hd _ _ hs K hK=>?_) ?_
     ·refine hs.yes 3 31 true hd ?_;have e2:=hs.o 2 (.pointer (some ⟨w.heap.size,0,none⟩));clear hs;go_simp;exact hK s wx sv hR
     refine dJ (fun D s wx hR _ hd _ _ hs K hK=>?_) ?_
     ·refine hs.yes 3 31 true hd ?_;have e34:=hs.v 6 34 hd;clear hs;have qk:=(hR.blk 0 rfl).cell;go_simp;exact hK s wx sv hR
     refine dJ (fun D s wx hR (hDi:D 8=false) hd hsh _ hs K hK=>?_) ?_
     ·refine hs.yes 3 31 true hd ?_;have e33:=hs.v 5 33 hd;have e35:=hs.v 7 35 hd;have g33:=aX e33;have g35:=aX e35;clear hs;have n11:D 11=false:=hsh.no hDi 11 rfl ⟨8,.data⟩ (by simp) rfl rfl;go_simp;refine(lK _ b.order st _ (HO.out.up hR.below)).mono ?_;rw[DC.out];rintro e2 w2 ⟨v2,rfl,s2⟩;obtain⟨A2,c2,hv,-⟩:=s2.uj 0 rfl;subst hv
      refine hK (A2,c2) w2
       (fun j hj=>by
        match j,hj with
        |0,hj | 1,hj | 2,hj | 3,hj | 4,hj | 5,hj | 6,hj | 7,hj=>rfl
        |8,hj=>rw[hDi] at hj;cases hj
        |9,hj | 10,hj | 11,hj | 12,hj | 13,hj | 14,hj | 15,hj | 16,hj | 17,hj | 18,hj | 19,hj=>rfl
        |_+20,hj=>rfl)
       ((hR.add 5 (if_neg (by rw[hDi];simp)) s2).congr
        (fun i=>by
         match i with
         |0 | 1 | 2 | 3 | 4 | 5=>rfl
         |q+6=>exact(if_neg (show¬(q+6=5) by omega)).symm))
     refine dJ (fun D s wx hR _ hd _ _ hs K hK=>?_) ?_
     ·refine hs.yes 3 31 true hd ?_;have e3:=hs.o 3 (.pointer (some ⟨(w.heap.size+1),0,none⟩));clear hs;go_simp;exact hK s wx sv hR
     refine dJ (fun D s wx hR _ hd _ _ hs K hK=>?_) ?_
     ·refine hs.yes 3 31 true hd ?_;have e37:=hs.v 9 37 hd;clear hs;have qk:=(hR.blk 1 rfl).cell;go_simp;exact hK s wx sv hR
     refine dJ (fun D s wx hR _ hd _ _ hs K hK=>?_) ?_
     ·refine hs.yes 3 31 true hd ?_;have e36:=hs.v 8 36 hd;have e38:=hs.v 10 38 hd;have g36:=aX e36;have g38:=aX e38;clear hs;have d8:D 8=true:=hd ⟨8,.data⟩ (by simp) rfl;go_simp;refine(zV s.1 may.length s.2 may m _ (hR.oZ 5 (if_pos d8))).mono ?_;rw[WY.out];rintro e2 w2 ⟨rfl,rfl⟩;exact hK s wx sv hR
     refine Cs (fun D s wx hR _ hd _ _ hs K hK=>?_) ?_
     ·have e31:=hs.v 3 31 hd;have e39:=hs.v 11 39 hd;clear hs;go_simp;exact hK s wx sv hR
     refine Cs (fun D s wx hR _ hd _ _ hs K hK=>?_) ?_
     ·have e40:=hs.v 12 40 hd;clear hs;go_simp;exact hK s wx sv hR
     refine aj.skip 13 41 false ?_;refine aj.skip 13 41 false ?_;refine aj.skip 13 41 false ?_;refine aj.skip 13 41 false ?_;refine Cs (fun D s wx hR _ hd _ _ hs K hK=>?_) ?_
     ·have e41:=hs.v 13 41 hd;have e45:=hs.v 17 45 hd;clear hs;go_simp;exact hK s wx sv hR
     refine Cs (fun D s wx hR _ hd _ _ hs K hK=>?_) ?_
     ·have e46:=hs.v 18 46 hd;clear hs;go_simp;exact hK s wx sv hR
     exact aj.nil
    ·intro D s wx hR hD;simp only[eH,Act.put,aO,aU,aW];have dX:Hid (St w wx [ah w.heap.size 28 #[.int .i64 os,.slice G gn gc,.slice G' n' c',.slice D' dn dc,.int .i64 st],ah (w.heap.size+1) 64 #[.int .i64 0,.int .i64 m],ah (w.heap.size+2) 28 #[.int .i64 0,.slice none 0 0,.slice none 0 0,.slice none 0 0,.int .i64 0],ax (.slice A6 sl c6) sh,ax (.slice A8 rl c8) rest]):=af (hR.eG [0,1,2,3,4] (by decide) rfl);clear hR hD cu;have q1:=dX.out.cells 0 rfl;have q2:=dX.out.cells 1 rfl
     go_wp2_with fail
     refine(eP _ b D' dn dc b.done _ (lV.out.up dX.out.below) um.out (HD.out.up dX.out.below) (by omega)).mono ?_;rw[fB bG.out];rintro e w9 ⟨v9,rfl,s9⟩;obtain⟨A1,n1,c1,A2,n2,c2,A3,n3,c3,hv⟩:=s9.gU 0 rfl;rw[nP.out,kK.out] at hv;simp only[id_eq] at hv ⊢
     subst hv;have fP:=af (dX.out.call s9);have q9:=fP.out.cells 2 rfl;have f9:=fP.out.free 2 rfl;clear s9 q1 q2;go_wp2;obtain⟨e1,e2⟩:=fV bG.out HN.out;refine bodyPost_ret (v:=.tuple #[.agg #[.int .i64 os,.slice A1 n1 c1,.slice A2 n2 c2,.slice A3 n3 c3,.int .i64 st],.bool false]) (by simp[results,Tryz.results56,go_sem,q9]) rfl ⟨.agg #[.int .i64 os,.slice A1 n1 c1,.slice A2 n2 c2,.slice A3 n3 c3,.int .i64 st],by rw[e2],?_⟩;rw[e1];exact(fP.out.fF 2 rfl _ _ _ _ _).pick [5] (by decide) rfl rfl
   |true=>
    by_cases hge:dn<40
    case neg=>
     have ZX:¬(dn:Int)<40:=by omega
     have HN:Bx (aZ b ⟨0,m⟩=none):=Bx.mk (by rw[Gv,if_neg (by rw[gy.out];omega)])
     go_upto_region 5 with(fail)
     refine kG (σ:=Option Addr×Nat)
      (fun s i=>match i with
       |0=>.pointer (some ⟨(w.heap.size+1),0,none⟩)
       |1=>.int .i64 0
       |2=>.bool true
       |3=>.bool true
       |4=>.pointer (some ⟨w.heap.size,0,none⟩)
       |5=>.agg #[.int .i64 os,.slice G gn gc,.slice G' n' c']
       |6=>.pointer (some ⟨w.heap.size,4,none⟩)
       |7=>.int .i64 st
       |8=>.slice s.1 may.length s.2
       |9=>.pointer (some ⟨(w.heap.size+1),1,none⟩)
       |10=>.int .i64 m
       |11=>.bool true
       |12=>.bool true
       |13=>.bool true
       |14=>.pointer (some ⟨w.heap.size,3,none⟩)
       |15=>.slice D' dn dc
       |16=>.int .i64 (dn:Int)
       |17=>.bool false
       |18=>.bool false
       |19=>.bool false
       |_=>undef)
      (fun D s wx=>Sn w wx fun i=>match i with
       |0=>some (ah w.heap.size 28 #[.int .i64 os,.slice G gn gc,.slice G' n' c',.slice D' dn dc,.int .i64 st])
       |1=>some (ah (w.heap.size+1) 64 #[.int .i64 0,.int .i64 m])
       |2=>some (ah (w.heap.size+2) 28 #[.int .i64 0,.slice none 0 0,.slice none 0 0,.slice none 0 0,.int .i64 0])
       |3=>some (ax (.slice A6 sl c6) sh)
       |4=>some (ax (.slice A8 rl c8) rest)
       |5=>if D 8=true then some (ax (.slice s.1 may.length s.2) may) else none
       |_=>none)
      (none,0) ?_ ?_ ?_
     ·intro D hD;refine((Sn.dN cu.out).quiet ((ai _ _).drew)).congr fun i=>?_
      match i with
      |0 | 1 | 2 | 3 | 4=>rfl
      |5=>simp only[hD 8 (by decide)];rfl
      |q+6=>rfl
     ·refine Cs (fun D s wx hR _ hd _ _ hs K hK=>?_) ?_
      ·have e3:=hs.o 3 (.pointer (some ⟨(w.heap.size+1),0,none⟩));clear hs;go_simp;exact hK s wx sv hR
      refine Cs (fun D s wx hR _ hd _ _ hs K hK=>?_) ?_
      ·have e28:=hs.v 0 28 hd;clear hs;have qk:=(hR.blk 1 rfl).cell;go_simp;exact hK s wx sv hR
      refine Cs (fun D s wx hR _ hd _ _ hs K hK=>?_) ?_
      ·have e29:=hs.v 1 29 hd;clear hs;go_simp;exact hK s wx sv hR
      refine Cs (fun D s wx hR _ hd _ _ hs K hK=>?_) ?_
      ·have e30:=hs.v 2 30 hd;clear hs;go_simp;exact hK s wx sv hR
      refine dJ (fun D s wx hR _ hd _ _ hs K hK=>?_) ?_
      ·refine hs.yes 3 31 true hd ?_;have e2:=hs.o 2 (.pointer (some ⟨w.heap.size,0,none⟩));clear hs;go_simp;exact hK s wx sv hR
      refine dJ (fun D s wx hR _ hd _ _ hs K hK=>?_) ?_
      ·refine hs.yes 3 31 true hd ?_;have e32:=hs.v 4 32 hd;clear hs;have qk:=(hR.blk 0 rfl).cell;go_simp;exact hK s wx sv hR
      refine dJ (fun D s wx hR _ hd _ _ hs K hK=>?_) ?_
      ·refine hs.yes 3 31 true hd ?_;have e2:=hs.o 2 (.pointer (some ⟨w.heap.size,0,none⟩));clear hs;go_simp;exact hK s wx sv hR
      refine dJ (fun D s wx hR _ hd _ _ hs K hK=>?_) ?_
      ·refine hs.yes 3 31 true hd ?_;have e34:=hs.v 6 34 hd;clear hs;have qk:=(hR.blk 0 rfl).cell;go_simp;exact hK s wx sv hR
      refine dJ (fun D s wx hR (hDi:D 8=false) hd hsh _ hs K hK=>?_) ?_
      ·refine hs.yes 3 31 true hd ?_;have e33:=hs.v 5 33 hd;have e35:=hs.v 7 35 hd;have g33:=aX e33;have g35:=aX e35;clear hs;have n11:D 11=false:=hsh.no hDi 11 rfl ⟨8,.data⟩ (by simp) rfl rfl;go_simp;refine(lK _ b.order st _ (HO.out.up hR.below)).mono ?_;rw[DC.out];rintro e2 w2 ⟨v2,rfl,s2⟩;obtain⟨A2,c2,hv,-⟩:=s2.uj 0 rfl;subst hv
       refine hK (A2,c2) w2
        (fun j hj=>by
         match j,hj with
         |0,hj | 1,hj | 2,hj | 3,hj | 4,hj | 5,hj | 6,hj | 7,hj=>rfl
         |8,hj=>rw[hDi] at hj;cases hj
         |9,hj | 10,hj | 11,hj | 12,hj | 13,hj | 14,hj | 15,hj | 16,hj | 17,hj | 18,hj | 19,hj=>rfl
         |_+20,hj=>rfl)
        ((hR.add 5 (if_neg (by rw[hDi];simp)) s2).congr
         (fun i=>by
          match i with
          |0 | 1 | 2 | 3 | 4 | 5=>rfl
          |q+6=>exact(if_neg (show¬(q+6=5) by omega)).symm))
      refine dJ (fun D s wx hR _ hd _ _ hs K hK=>?_) ?_
      ·refine hs.yes 3 31 true hd ?_;have e3:=hs.o 3 (.pointer (some ⟨(w.heap.size+1),0,none⟩));clear hs;go_simp;exact hK s wx sv hR
      refine dJ (fun D s wx hR _ hd _ _ hs K hK=>?_) ?_
      ·refine hs.yes 3 31 true hd ?_;have e37:=hs.v 9 37 hd;clear hs;have qk:=(hR.blk 1 rfl).cell;go_simp;exact hK s wx sv hR
      refine dJ (fun D s wx hR _ hd _ _ hs K hK=>?_) ?_
      ·refine hs.yes 3 31 true hd ?_;have e36:=hs.v 8 36 hd;have e38:=hs.v 10 38 hd;have g36:=aX e36;have g38:=aX e38;clear hs;have d8:D 8=true:=hd ⟨8,.data⟩ (by simp) rfl;go_simp;refine(zV s.1 may.length s.2 may m _ (hR.oZ 5 (if_pos d8))).mono ?_;rw[WY.out];rintro e2 w2 ⟨rfl,rfl⟩;exact hK s wx sv hR
      refine Cs (fun D s wx hR _ hd _ _ hs K hK=>?_) ?_
      ·have e31:=hs.v 3 31 hd;have e39:=hs.v 11 39 hd;clear hs;go_simp;exact hK s wx sv hR
      refine Cs (fun D s wx hR _ hd _ _ hs K hK=>?_) ?_
      ·have e40:=hs.v 12 40 hd;clear hs;go_simp;exact hK s wx sv hR
      refine dJ (fun D s wx hR _ hd _ _ hs K hK=>?_) ?_
      ·refine hs.yes 13 41 true hd ?_;have e2:=hs.o 2 (.pointer (some ⟨w.heap.size,0,none⟩));clear hs;go_simp;exact hK s wx sv hR
      refine dJ (fun D s wx hR _ hd _ _ hs K hK=>?_) ?_
      ·refine hs.yes 13 41 true hd ?_;have e42:=hs.v 14 42 hd;clear hs;have qk:=(hR.blk 0 rfl).cell;go_simp;exact hK s wx sv hR
      refine dJ (fun D s wx hR _ hd _ _ hs K hK=>?_) ?_
      ·refine hs.yes 13 41 true hd ?_;have e43:=hs.v 15 43 hd;have g43:=aX e43;clear hs;go_simp;exact hK s wx sv hR
      refine dJ (fun D s wx hR _ hd _ _ hs K hK=>?_) ?_
      ·refine hs.yes 13 41 true hd ?_;have e44:=hs.v 16 44 hd;clear hs;go_simp
       first | (exact hK s wx sv hR) | (rw[show decide ((dn:Int)<40)=false from decide_eq_false (by omega)];exact hK s wx sv hR)
      refine Cs (fun D s wx hR _ hd _ _ hs K hK=>?_) ?_
      ·have e41:=hs.v 13 41 hd;have e45:=hs.v 17 45 hd;clear hs;go_simp;exact hK s wx sv hR
      refine Cs (fun D s wx hR _ hd _ _ hs K hK=>?_) ?_
      ·have e46:=hs.v 18 46 hd;clear hs;go_simp;exact hK s wx sv hR
      exact aj.nil
     ·intro D s wx hR hD;simp only[eH,Act.put,aO,aU,aW];have dX:Hid (St w wx [ah w.heap.size 28 #[.int .i64 os,.slice G gn gc,.slice G' n' c',.slice D' dn dc,.int .i64 st],ah (w.heap.size+1) 64 #[.int .i64 0,.int .i64 m],ah (w.heap.size+2) 28 #[.int .i64 0,.slice none 0 0,.slice none 0 0,.slice none 0 0,.int .i64 0],ax (.slice A6 sl c6) sh,ax (.slice A8 rl c8) rest]):=af (hR.eG [0,1,2,3,4] (by decide) rfl);clear hR hD cu;have q1:=dX.out.cells 0 rfl;have q2:=dX.out.cells 1 rfl
      go_wp2_with fail
      refine(eP _ b D' dn dc b.done _ (lV.out.up dX.out.below) um.out (HD.out.up dX.out.below) (by omega)).mono ?_;rw[fB bG.out];rintro e w9 ⟨v9,rfl,s9⟩;obtain⟨A1,n1,c1,A2,n2,c2,A3,n3,c3,hv⟩:=s9.gU 0 rfl;rw[nP.out,kK.out] at hv;simp only[id_eq] at hv ⊢
      subst hv;have fP:=af (dX.out.call s9);have q9:=fP.out.cells 2 rfl;have f9:=fP.out.free 2 rfl;clear s9 q1 q2;go_wp2;obtain⟨e1,e2⟩:=fV bG.out HN.out;refine bodyPost_ret (v:=.tuple #[.agg #[.int .i64 os,.slice A1 n1 c1,.slice A2 n2 c2,.slice A3 n3 c3,.int .i64 st],.bool false]) (by simp[results,Tryz.results56,go_sem,q9]) rfl ⟨.agg #[.int .i64 os,.slice A1 n1 c1,.slice A2 n2 c2,.slice A3 n3 c3,.int .i64 st],by rw[e2],?_⟩;rw[e1];exact(fP.out.fF 2 rfl _ _ _ _ _).pick [5] (by decide) rfl rfl
    have ZX:(dn:Int)<40:=by omega
    have HY:Bx (aZ b ⟨0,m⟩=some (b.done++[m])):=Bx.mk (by rw[Gv,if_pos (by rw[kK.out,DC.out,gy.out];exact⟨by omega,of_decide_eq_true WY.out⟩)])
    go_upto_region 5 with(fail)
    refine kG (σ:=Option Addr×Nat)
     (fun s i=>match i with
      |0=>.pointer (some ⟨(w.heap.size+1),0,none⟩)
      |1=>.int .i64 0
      |2=>.bool true
      |3=>.bool true
      |4=>.pointer (some ⟨w.heap.size,0,none⟩)
      |5=>.agg #[.int .i64 os,.slice G gn gc,.slice G' n' c']
      |6=>.pointer (some ⟨w.heap.size,4,none⟩)
      |7=>.int .i64 st
      |8=>.slice s.1 may.length s.2
      |9=>.pointer (some ⟨(w.heap.size+1),1,none⟩)
      |10=>.int .i64 m
      |11=>.bool true
      |12=>.bool true
      |13=>.bool true
      |14=>.pointer (some ⟨w.heap.size,3,none⟩)
      |15=>.slice D' dn dc
      |16=>.int .i64 (dn:Int)
      |17=>.bool true
      |18=>.bool true
      |19=>.bool true
      |_=>undef)
     (fun D s wx=>Sn w wx fun i=>match i with
      |0=>some (ah w.heap.size 28 #[.int .i64 os,.slice G gn gc,.slice G' n' c',.slice D' dn dc,.int .i64 st])
      |1=>some (ah (w.heap.size+1) 64 #[.int .i64 0,.int .i64 m])
      |2=>some (ah (w.heap.size+2) 28 #[.int .i64 0,.slice none 0 0,.slice none 0 0,.slice none 0 0,.int .i64 0])
      |3=>some (ax (.slice A6 sl c6) sh)
      |4=>some (ax (.slice A8 rl c8) rest)
      |5=>if D 8=true then some (ax (.slice s.1 may.length s.2) may) else none
      |_=>none)
     (none,0) ?_ ?_ ?_
    ·intro D hD;refine((Sn.dN cu.out).quiet ((ai _ _).drew)).congr fun i=>?_
     match i with
     |0 | 1 | 2 | 3 | 4=>rfl
     |5=>simp only[hD 8 (by decide)];rfl
     |q+6=>rfl
    ·refine Cs (fun D s wx hR _ hd _ _ hs K hK=>?_) ?_
     ·have e3:=hs.o 3 (.pointer (some ⟨(w.heap.size+1),0,none⟩));clear hs;go_simp;exact hK s wx sv hR
     refine Cs (fun D s wx hR _ hd _ _ hs K hK=>?_) ?_
     ·have e28:=hs.v 0 28 hd;clear hs;have qk:=(hR.blk 1 rfl).cell;go_simp;exact hK s wx sv hR
     refine Cs (fun D s wx hR _ hd _ _ hs K hK=>?_) ?_
     ·have e29:=hs.v 1 29 hd;clear hs;go_simp;exact hK s wx sv hR
     refine Cs (fun D s wx hR _ hd _ _ hs K hK=>?_) ?_
     ·have e30:=hs.v 2 30 hd;clear hs;go_simp;exact hK s wx sv hR
     refine dJ (fun D s wx hR _ hd _ _ hs K hK=>?_) ?_
     ·refine hs.yes 3 31 true hd ?_;have e2:=hs.o 2 (.pointer (some ⟨w.heap.size,0,none⟩));clear hs;go_simp;exact hK s wx sv hR
     refine dJ (fun D s wx hR _ hd _ _ hs K hK=>?_) ?_
     ·refine hs.yes 3 31 true hd ?_;have e32:=hs.v 4 32 hd;clear hs;have qk:=(hR.blk 0 rfl).cell;go_simp;exact hK s wx sv hR
     refine dJ (fun D s wx hR _ hd _ _ hs K hK=>?_) ?_
     ·refine hs.yes 3 31 true hd ?_;have e2:=hs.o 2 (.pointer (some ⟨w.heap.size,0,none⟩));clear hs;go_simp;exact hK s wx sv hR
     refine dJ (fun D s wx hR _ hd _ _ hs K hK=>?_) ?_
     ·refine hs.yes 3 31 true hd ?_;have e34:=hs.v 6 34 hd;clear hs;have qk:=(hR.blk 0 rfl).cell;go_simp;exact hK s wx sv hR
     refine dJ (fun D s wx hR (hDi:D 8=false) hd hsh _ hs K hK=>?_) ?_
     ·refine hs.yes 3 31 true hd ?_;have e33:=hs.v 5 33 hd;have e35:=hs.v 7 35 hd;have g33:=aX e33;have g35:=aX e35;clear hs;have n11:D 11=false:=hsh.no hDi 11 rfl ⟨8,.data⟩ (by simp) rfl rfl;go_simp;refine(lK _ b.order st _ (HO.out.up hR.below)).mono ?_;rw[DC.out];rintro e2 w2 ⟨v2,rfl,s2⟩;obtain⟨A2,c2,hv,-⟩:=s2.uj 0 rfl;subst hv
      refine hK (A2,c2) w2
       (fun j hj=>by
        match j,hj with
        |0,hj | 1,hj | 2,hj | 3,hj | 4,hj | 5,hj | 6,hj | 7,hj=>rfl
        |8,hj=>rw[hDi] at hj;cases hj
        |9,hj | 10,hj | 11,hj | 12,hj | 13,hj | 14,hj | 15,hj | 16,hj | 17,hj | 18,hj | 19,hj=>rfl
        |_+20,hj=>rfl)
       ((hR.add 5 (if_neg (by rw[hDi];simp)) s2).congr
        (fun i=>by
         match i with
         |0 | 1 | 2 | 3 | 4 | 5=>rfl
         |q+6=>exact(if_neg (show¬(q+6=5) by omega)).symm))
     refine dJ (fun D s wx hR _ hd _ _ hs K hK=>?_) ?_
     ·refine hs.yes 3 31 true hd ?_;have e3:=hs.o 3 (.pointer (some ⟨(w.heap.size+1),0,none⟩));clear hs;go_simp;exact hK s wx sv hR
     refine dJ (fun D s wx hR _ hd _ _ hs K hK=>?_) ?_
     ·refine hs.yes 3 31 true hd ?_;have e37:=hs.v 9 37 hd;clear hs;have qk:=(hR.blk 1 rfl).cell;go_simp;exact hK s wx sv hR
     refine dJ (fun D s wx hR _ hd _ _ hs K hK=>?_) ?_
     ·refine hs.yes 3 31 true hd ?_;have e36:=hs.v 8 36 hd;have e38:=hs.v 10 38 hd;have g36:=aX e36;have g38:=aX e38;clear hs;have d8:D 8=true:=hd ⟨8,.data⟩ (by simp) rfl;go_simp;refine(zV s.1 may.length s.2 may m _ (hR.oZ 5 (if_pos d8))).mono ?_;rw[WY.out];rintro e2 w2 ⟨rfl,rfl⟩;exact hK s wx sv hR
     refine Cs (fun D s wx hR _ hd _ _ hs K hK=>?_) ?_
     ·have e31:=hs.v 3 31 hd;have e39:=hs.v 11 39 hd;clear hs;go_simp;exact hK s wx sv hR
     refine Cs (fun D s wx hR _ hd _ _ hs K hK=>?_) ?_
     ·have e40:=hs.v 12 40 hd;clear hs;go_simp;exact hK s wx sv hR
     refine dJ (fun D s wx hR _ hd _ _ hs K hK=>?_) ?_
     ·refine hs.yes 13 41 true hd ?_;have e2:=hs.o 2 (.pointer (some ⟨w.heap.size,0,none⟩));clear hs;go_simp;exact hK s wx sv hR
     refine dJ (fun D s wx hR _ hd _ _ hs K hK=>?_) ?_
     ·refine hs.yes 13 41 true hd ?_;have e42:=hs.v 14 42 hd;clear hs;have qk:=(hR.blk 0 rfl).cell;go_simp;exact hK s wx sv hR
     refine dJ (fun D s wx hR _ hd _ _ hs K hK=>?_) ?_
     ·refine hs.yes 13 41 true hd ?_;have e43:=hs.v 15 43 hd;have g43:=aX e43;clear hs;go_simp;exact hK s wx sv hR
     refine dJ (fun D s wx hR _ hd _ _ hs K hK=>?_) ?_
     ·refine hs.yes 13 41 true hd ?_;have e44:=hs.v 16 44 hd;clear hs;go_simp
      first | (exact hK s wx sv hR) | (rw[show decide ((dn:Int)<40)=true from decide_eq_true (by omega)];exact hK s wx sv hR)
     refine Cs (fun D s wx hR _ hd _ _ hs K hK=>?_) ?_
     ·have e41:=hs.v 13 41 hd;have e45:=hs.v 17 45 hd;clear hs;go_simp;exact hK s wx sv hR
     refine Cs (fun D s wx hR _ hd _ _ hs K hK=>?_) ?_
     ·have e46:=hs.v 18 46 hd;clear hs;go_simp;exact hK s wx sv hR
     exact aj.nil
    ·intro D s wx hR hD;simp only[eH,Act.put,aO,aU,aW];have dX:Hid (St w wx [ah w.heap.size 28 #[.int .i64 os,.slice G gn gc,.slice G' n' c',.slice D' dn dc,.int .i64 st],ah (w.heap.size+1) 64 #[.int .i64 0,.int .i64 m],ah (w.heap.size+2) 28 #[.int .i64 0,.slice none 0 0,.slice none 0 0,.slice none 0 0,.int .i64 0],ax (.slice A6 sl c6) sh,ax (.slice A8 rl c8) rest]):=af (hR.eG [0,1,2,3,4] (by decide) rfl);clear hR hD cu
     go_upto_region 6 with(fail)
     refine kG (σ:=Nat×(Option Addr×Nat)×(Option Addr×Nat)×Nat×(Option Addr×Nat×Nat)×(Option Addr×Nat×Nat)×(Option Addr×Nat×Nat))
      (fun s i=>match i with
       |0=>.agg #[.int .i64 os,.slice G gn gc,.slice G' n' c',.slice D' dn dc,.int .i64 st]
       |1=>.slice (some ⟨s.1,0,none⟩) 0 0
       |2=>.pointer (some ⟨w.heap.size,3,none⟩)
       |3=>.slice D' dn dc
       |4=>.slice s.2.1.1 (0+dn) s.2.1.2
       |5=>.pointer (some ⟨(w.heap.size+1),1,none⟩)
       |6=>.int .i64 m
       |7=>.slice (some ⟨s.2.2.2.1,0,none⟩) 1 1
       |8=>.slice s.2.2.1.1 (dn+1) s.2.2.1.2
       |9=>.agg #[.int .i64 os,.slice s.2.2.2.2.1.1 s.2.2.2.2.1.2.1 s.2.2.2.2.1.2.2,.slice s.2.2.2.2.2.1.1 s.2.2.2.2.2.1.2.1 s.2.2.2.2.2.1.2.2,.slice s.2.2.2.2.2.2.1 s.2.2.2.2.2.2.2.1 s.2.2.2.2.2.2.2.2,.int .i64 (aC b.order os (b.done++[m]))]
       |11=>.bool true
       |_=>undef)
      (fun D s wy=>Sn w wy fun i=>match i with
       |0=>some (ah w.heap.size 28 #[.int .i64 os,.slice G gn gc,.slice G' n' c',.slice D' dn dc,.int .i64 st])
       |1=>some (ah (w.heap.size+1) 64 #[.int .i64 0,.int .i64 m])
       |2=>some (ah (w.heap.size+2) 28 (if D 10=true then #[.int .i64 os,.slice s.2.2.2.2.1.1 s.2.2.2.2.1.2.1 s.2.2.2.2.1.2.2,.slice s.2.2.2.2.2.1.1 s.2.2.2.2.2.1.2.1 s.2.2.2.2.2.1.2.2,.slice s.2.2.2.2.2.2.1 s.2.2.2.2.2.2.2.1 s.2.2.2.2.2.2.2.2,.int .i64 (aC b.order os (b.done++[m]))] else #[.int .i64 0,.slice none 0 0,.slice none 0 0,.slice none 0 0,.int .i64 0]))
       |3=>some (ax (.slice A6 sl c6) sh)
       |4=>some (ax (.slice A8 rl c8) rest)
       |5=>if D 8=true then some (ax (.slice s.2.2.1.1 (dn+1) s.2.2.1.2) (b.done++[m])) else if D 4=true then some (ax (.slice s.2.1.1 (0+dn) s.2.1.2) ([]++b.done)) else if D 1=true then some (ax (.slice (some ⟨s.1,0,none⟩) 0 0) []) else none
       |6=>if D 7=true then some (ax (.slice (some ⟨s.2.2.2.1,0,none⟩) 1 1) [m]) else none
       |7=>if D 9=true then some (aI (.agg #[.int .i64 os,.slice s.2.2.2.2.1.1 s.2.2.2.2.1.2.1 s.2.2.2.2.1.2.2,.slice s.2.2.2.2.2.1.1 s.2.2.2.2.2.1.2.1 s.2.2.2.2.2.1.2.2,.slice s.2.2.2.2.2.2.1 s.2.2.2.2.2.2.2.1 s.2.2.2.2.2.2.2.2,.int .i64 (aC b.order os (b.done++[m]))]) (eX b (b.done++[m]))) else none
       |_=>none)
      (0,(none,0),(none,0),0,((none,0,0),(none,0,0),(none,0,0))) ?_ ?_ ?_
     ·intro D hD;refine((Sn.dN dX.out).quiet ((ai _ _).drew)).congr fun i=>?_
      match i with
      |0 | 1=>rfl
      |2=>simp only[hD 10 (by decide)];rfl
      |3 | 4=>rfl
      |5=>simp only[hD 8 (by decide),hD 4 (by decide),hD 1 (by decide)];rfl
      |6=>simp only[hD 7 (by decide)];rfl
      |7=>simp only[hD 9 (by decide)];rfl
      |q+8=>rfl
     ·refine Cs (fun D s wy hR _ hd _ _ hs K hK=>?_) ?_
      ·have e2:=hs.o 2 (.pointer (some ⟨w.heap.size,0,none⟩));clear hs;have qk:=(hR.blk 0 rfl).cell;go_simp;exact hK s wy sv hR
      refine Cs (fun D s wy hR (hDi:D 1=false) hd hsh _ hs K hK=>?_) ?_
      ·clear hs;have n4:D 4=false:=hsh.no hDi 4 rfl ⟨1,.data⟩ (by simp) rfl rfl;have n8:D 8=false:=hsh.no n4 8 rfl ⟨4,.data⟩ (by simp) rfl rfl;have n9:D 9=false:=hsh.no n8 9 rfl ⟨8,.data⟩ (by simp) rfl rfl;have n10:D 10=false:=hsh.no n9 10 rfl ⟨9,.data⟩ (by simp) rfl rfl;go_simp
       refine hK (wy.heap.size,s.2) _
        (fun j hj=>by
         match j,hj with
         |0,hj=>rfl
         |1,hj=>rw[hDi] at hj;cases hj
         |2,hj | 3,hj=>rfl
         |4,hj=>rw[n4] at hj;cases hj
         |5,hj | 6,hj | 7,hj=>rfl
         |8,hj=>rw[n8] at hj;cases hj
         |9,hj=>rw[n9] at hj;cases hj
         |10,hj=>rw[n10] at hj;cases hj
         |11,hj=>rfl
         |_+12,hj=>rfl)
        ((hR.add 5 (by simp only[n8,n4,hDi];rfl) (St.yA wy wy.heap.size rfl)).congr
         (fun i=>by
          match i with
          |0 | 1 | 2 | 3 | 4=>rfl
          |5=>(show(if D 8=true then _ else if D 4=true then _ else _)=_;rw[n8,n4];rfl)
          |6 | 7=>rfl
          |q+8=>exact(if_neg (show¬(q+8=5) by omega)).symm))
      refine Cs (fun D s wy hR _ hd _ _ hs K hK=>?_) ?_
      ·have e2:=hs.o 2 (.pointer (some ⟨w.heap.size,0,none⟩));clear hs;go_simp;exact hK s wy sv hR
      refine Cs (fun D s wy hR _ hd _ _ hs K hK=>?_) ?_
      ·have e49:=hs.v 2 49 hd;clear hs;have qk:=(hR.blk 0 rfl).cell;go_simp;exact hK s wy sv hR
      refine Cs (fun D s wy hR (hDi:D 4=false) hd hsh _ hs K hK=>?_) ?_
      ·have e48:=hs.v 1 48 hd;have e50:=hs.v 3 50 hd;have g48:=aX e48;have g50:=aX e50;clear hs;have n8:D 8=false:=hsh.no hDi 8 rfl ⟨4,.data⟩ (by simp) rfl rfl;have n9:D 9=false:=hsh.no n8 9 rfl ⟨8,.data⟩ (by simp) rfl rfl;have n10:D 10=false:=hsh.no n9 10 rfl ⟨9,.data⟩ (by simp) rfl rfl;have d1:D 1=true:=hd ⟨1,.data⟩ (by simp) rfl;have ho:=hR.qA 5 (v:=.slice (some ⟨s.1,0,none⟩) 0 0) (xs:=[]) (by simp only[n8,hDi,d1];rfl);simp only[List.length_nil] at ho;refine ni iR (.tmp 48) (.tmp 50) rfl 0 _ 0 _ e48 ho _ D' dn dc _ e50 (HD.out.up hR.below).row (gG _) (by omega) (by omega) (by omega) ?_;intro v' w' hown hg hat;obtain⟨A4,c4,hv⟩:=dR hown;subst hv
       refine hK (s.1,(A4,c4),s.2.2) w'
        (fun j hj=>by
         match j,hj with
         |0,hj | 1,hj | 2,hj | 3,hj=>rfl
         |4,hj=>rw[hDi] at hj;cases hj
         |5,hj | 6,hj | 7,hj=>rfl
         |8,hj=>rw[n8] at hj;cases hj
         |9,hj=>rw[n9] at hj;cases hj
         |10,hj=>rw[n10] at hj;cases hj
         |11,hj=>rfl
         |_+12,hj=>rfl)
        ((hR.G8 5 (v:=.slice (some ⟨s.1,0,none⟩) 0 0) (xs:=[]) (ys:=b.done) (by simp only[n8,hDi,d1];rfl) (by rw[gy.out];rfl) hown HDW.out hg hat).congr
         (fun i=>by
          match i with
          |0 | 1 | 2 | 3 | 4=>rfl
          |5=>(show(if D 8=true then _ else _)=_;rw[n8];rfl)
          |6 | 7=>rfl
          |q+8=>exact(if_neg (show¬(q+8=5) by omega)).symm))
      refine Cs (fun D s wy hR _ hd _ _ hs K hK=>?_) ?_
      ·have e3:=hs.o 3 (.pointer (some ⟨(w.heap.size+1),0,none⟩));clear hs;go_simp;exact hK s wy sv hR
      refine Cs (fun D s wy hR _ hd _ _ hs K hK=>?_) ?_
      ·have e52:=hs.v 5 52 hd;clear hs;have qk:=(hR.blk 1 rfl).cell;go_simp;exact hK s wy sv hR
      refine Cs (fun D s wy hR (hDi:D 7=false) hd hsh _ hs K hK=>?_) ?_
      ·have e53:=hs.v 6 53 hd;have g53:=aX e53;clear hs;have n8:D 8=false:=hsh.no hDi 8 rfl ⟨7,.data⟩ (by simp) rfl rfl;have n9:D 9=false:=hsh.no n8 9 rfl ⟨8,.data⟩ (by simp) rfl rfl;have n10:D 10=false:=hsh.no n9 10 rfl ⟨9,.data⟩ (by simp) rfl rfl;go_simp
       refine hK (s.1,s.2.1,s.2.2.1,wy.heap.size,s.2.2.2.2) _
        (fun j hj=>by
         match j,hj with
         |0,hj | 1,hj | 2,hj | 3,hj | 4,hj | 5,hj | 6,hj=>rfl
         |7,hj=>rw[hDi] at hj;cases hj
         |8,hj=>rw[n8] at hj;cases hj
         |9,hj=>rw[n9] at hj;cases hj
         |10,hj=>rw[n10] at hj;cases hj
         |11,hj=>rfl
         |_+12,hj=>rfl)
        ((hR.add 6 (if_neg (by rw[hDi];simp)) (St.lit wy [m] 1 rfl (by simp) (fun x hx=>by rw[List.mem_singleton.1 hx];exact YF.out))).congr
         (fun i=>by
          match i with
          |0 | 1 | 2 | 3 | 4 | 5 | 6 | 7=>rfl
          |q+8=>exact(if_neg (show¬(q+8=6) by omega)).symm))
      refine Cs (fun D s wy hR (hDi:D 8=false) hd hsh _ hs K hK=>?_) ?_
      ·have e51:=hs.v 4 51 hd;have e54:=hs.v 7 54 hd;have g51:=aX e51;have g54:=aX e54;clear hs;have n9:D 9=false:=hsh.no hDi 9 rfl ⟨8,.data⟩ (by simp) rfl rfl;have n10:D 10=false:=hsh.no n9 10 rfl ⟨9,.data⟩ (by simp) rfl rfl;have d4:D 4=true:=hd ⟨4,.data⟩ (by simp) rfl;have d7:D 7=true:=hd ⟨7,.data⟩ (by simp) rfl;have ho:=hR.qA 5 (v:=.slice s.2.1.1 (0+dn) s.2.1.2) (xs:=[]++b.done) (by simp only[hDi,d4];rfl);rw[List.nil_append,gy.out] at ho;have hr:=(hR.oZ 6 (A:=some ⟨s.2.2.2.1,0,none⟩) (n:=1) (c:=1) (xs:=[m]) (if_pos d7)).row;refine ni iR (.tmp 51) (.tmp 54) rfl 0 _ dn _ e51 ho _ _ 1 1 _ e54 hr (gG _) (by omega) (by omega) (by omega) ?_;intro v' w' hown hg hat;obtain⟨A4,c4,hv⟩:=dR hown;subst hv
       refine hK (s.1,s.2.1,(A4,c4),s.2.2.2) w'
        (fun j hj=>by
         match j,hj with
         |0,hj | 1,hj | 2,hj | 3,hj | 4,hj | 5,hj | 6,hj | 7,hj=>rfl
         |8,hj=>rw[hDi] at hj;cases hj
         |9,hj=>rw[n9] at hj;cases hj
         |10,hj=>rw[n10] at hj;cases hj
         |11,hj=>rfl
         |_+12,hj=>rfl)
        ((hR.G8 5 (v:=.slice s.2.1.1 (0+dn) s.2.1.2) (xs:=b.done) (ys:=[m]) (by simp only[hDi,d4];rfl) (by rw[gy.out];rfl) hown (fun x hx=>by rw[List.mem_singleton.1 hx];exact YF.out) hg hat).congr
         (fun i=>by
          match i with
          |0 | 1 | 2 | 3 | 4 | 5 | 6 | 7=>rfl
          |q+8=>exact(if_neg (show¬(q+8=5) by omega)).symm))
      refine Cs (fun D s wy hR (hDi:D 9=false) hd hsh _ hs K hK=>?_) ?_
      ·have e47:=hs.v 0 47 hd;have e55:=hs.v 8 55 hd;have g47:=aX e47;have g55:=aX e55;clear hs;have n10:D 10=false:=hsh.no hDi 10 rfl ⟨9,.data⟩ (by simp) rfl rfl;have d8:D 8=true:=hd ⟨8,.data⟩ (by simp) rfl;go_simp;refine(eP _ b s.2.2.1.1 (dn+1) s.2.2.1.2 (b.done++[m]) _ (lV.out.up hR.below) um.out (hR.oZ 5 (A:=s.2.2.1.1) (n:=dn+1) (c:=s.2.2.1.2) (xs:=b.done++[m]) (by simp only[d8];rfl)) (by omega)).mono ?_;rintro e2 w2 ⟨v2,rfl,s2⟩;obtain⟨A1,n1,c1,A2,n2,c2,A3,n3,c3,hv⟩:=s2.gU 0 rfl;rw[show(eX b (b.done++[m])).order.start=os from nP.out,show(eX b (b.done++[m])).state=aC b.order os (b.done++[m]) from by rw[←nP.out];rfl] at hv;subst hv
       refine hK (s.1,s.2.1,s.2.2.1,s.2.2.2.1,(A1,n1,c1),(A2,n2,c2),(A3,n3,c3)) w2
        (fun j hj=>by
         match j,hj with
         |0,hj | 1,hj | 2,hj | 3,hj | 4,hj | 5,hj | 6,hj | 7,hj | 8,hj=>rfl
         |9,hj=>rw[hDi] at hj;cases hj
         |10,hj=>rw[n10] at hj;cases hj
         |11,hj=>rfl
         |_+12,hj=>rfl)
        ((hR.add 7 (if_neg (by rw[hDi];simp)) s2).congr
         (fun i=>by
          match i with
          |0 | 1=>rfl
          |2=>(show some (ah _ _ (if D 10=true then _ else _))=some (ah _ _ (if D 10=true then _ else _));rw[n10]<;>rfl)
          |3 | 4 | 5 | 6 | 7=>rfl
          |q+8=>exact(if_neg (show¬(q+8=7) by omega)).symm))
      refine Cs (fun D s wy hR (hDi:D 10=false) hd _ _ hs K hK=>?_) ?_
      ·have e4:=hs.o 4 (.pointer (some ⟨(w.heap.size+2),0,none⟩));have e56:=hs.v 9 56 hd;clear hs;have kb:fU wy (w.heap.size+2) 28 #[.int .i64 0,.slice none 0 0,.slice none 0 0,.slice none 0 0,.int .i64 0]:=hR.blk 2 (by simp only[hDi]<;>rfl);have f0:=kb.frozen;have qk:=kb.cell;go_simp
       exact hK s _ sv ((hR.fF 2 (by simp only[hDi];rfl) _ _ _ _ _).congr
        (fun i=>by
         match i with
         |0 | 1 | 2 | 3 | 4 | 5 | 6 | 7=>rfl
         |q+8=>exact(if_neg (show¬(q+8=2) by omega)).symm))
      refine Cs (fun D s wy hR _ hd _ _ hs K hK=>?_) ?_
      ·clear hs;go_simp;exact hK s wy sv hR
      exact aj.nil
     ·intro D s wy hR hD;simp only[eH,Act.put,aO,aU,aW];have fP:Hid (St w wy [ah (w.heap.size+2) 28 #[.int .i64 os,.slice s.2.2.2.2.1.1 s.2.2.2.2.1.2.1 s.2.2.2.2.1.2.2,.slice s.2.2.2.2.2.1.1 s.2.2.2.2.2.1.2.1 s.2.2.2.2.2.1.2.2,.slice s.2.2.2.2.2.2.1 s.2.2.2.2.2.2.2.1 s.2.2.2.2.2.2.2.2,.int .i64 (aC b.order os (b.done++[m]))],aI (.agg #[.int .i64 os,.slice s.2.2.2.2.1.1 s.2.2.2.2.1.2.1 s.2.2.2.2.1.2.2,.slice s.2.2.2.2.2.1.1 s.2.2.2.2.2.1.2.1 s.2.2.2.2.2.1.2.2,.slice s.2.2.2.2.2.2.1 s.2.2.2.2.2.2.2.1 s.2.2.2.2.2.2.2.2,.int .i64 (aC b.order os (b.done++[m]))]) (eX b (b.done++[m]))]):=af (hR.eG [2,7] (by decide) (by simp only[List.map,hD 9 (by decide),hD 10 (by decide)]<;>rfl));clear hR hD dX;have q9:=fP.out.cells 0 rfl;go_wp2;obtain⟨e1,e2⟩:=iZ bG.out HY.out;refine bodyPost_ret (v:=.tuple #[.agg #[.int .i64 os,.slice s.2.2.2.2.1.1 s.2.2.2.2.1.2.1 s.2.2.2.2.1.2.2,.slice s.2.2.2.2.2.1.1 s.2.2.2.2.2.1.2.1 s.2.2.2.2.2.1.2.2,.slice s.2.2.2.2.2.2.1 s.2.2.2.2.2.2.2.1 s.2.2.2.2.2.2.2.2,.int .i64 (aC b.order os (b.done++[m]))],.bool true]) (by simp[results,Tryz.results56,go_sem,q9]) rfl ⟨.agg #[.int .i64 os,.slice s.2.2.2.2.1.1 s.2.2.2.2.1.2.1 s.2.2.2.2.1.2.2,.slice s.2.2.2.2.2.1.1 s.2.2.2.2.2.1.2.1 s.2.2.2.2.2.1.2.2,.slice s.2.2.2.2.2.2.1 s.2.2.2.2.2.2.2.1 s.2.2.2.2.2.2.2.2,.int .i64 (aC b.order os (b.done++[m]))],by rw[e2],?_⟩;rw[e1];exact fP.out.pick [1] (by decide) rfl rfl
  have hk0:(k == 0)=false:=beq_false_of_ne h0
  go_upto_region 5 with(fail)
  refine kG (σ:=Unit)
   (fun s i=>match i with
    |0=>.pointer (some ⟨(w.heap.size+1),0,none⟩)
    |1=>.int .i64 k
    |2=>.bool false
    |3=>.bool false
    |12=>.bool false
    |13=>.bool false
    |18=>.bool false
    |19=>.bool false
    |_=>undef)
   (fun D s wx=>Sn w wx fun i=>match i with
    |0=>some (ah w.heap.size 28 #[.int .i64 os,.slice G gn gc,.slice G' n' c',.slice D' dn dc,.int .i64 st])
    |1=>some (ah (w.heap.size+1) 64 #[.int .i64 k,.int .i64 m])
    |2=>some (ah (w.heap.size+2) 28 #[.int .i64 0,.slice none 0 0,.slice none 0 0,.slice none 0 0,.int .i64 0])
    |3=>some (ax (.slice A6 sl c6) sh)
    |4=>some (ax (.slice A8 rl c8) rest)
    |_=>none)
   () ?_ ?_ ?_
  ·intro D hD;refine((Sn.dN cu.out).quiet ((ai _ _).drew)).congr fun i=>?_
   match i with
   |0 | 1 | 2 | 3 | 4=>rfl
   |q+5=>rfl
  ·refine Cs (fun D s wx hR _ hd _ _ hs K hK=>?_) ?_
   ·have e3:=hs.o 3 (.pointer (some ⟨(w.heap.size+1),0,none⟩));clear hs;go_simp;exact hK s wx sv hR
   refine Cs (fun D s wx hR _ hd _ _ hs K hK=>?_) ?_
   ·have e28:=hs.v 0 28 hd;clear hs;have qk:=(hR.blk 1 rfl).cell;go_simp;exact hK s wx sv hR
   refine Cs (fun D s wx hR _ hd _ _ hs K hK=>?_) ?_
   ·have e29:=hs.v 1 29 hd;clear hs;go_simp;exact hK s wx sv hR
   refine Cs (fun D s wx hR _ hd _ _ hs K hK=>?_) ?_
   ·have e30:=hs.v 2 30 hd;clear hs;go_simp;exact hK s wx sv hR
   refine aj.skip 3 31 false ?_;refine aj.skip 3 31 false ?_;refine aj.skip 3 31 false ?_;refine aj.skip 3 31 false ?_;refine aj.skip 3 31 false ?_;refine aj.skip 3 31 false ?_;refine aj.skip 3 31 false ?_;refine aj.skip 3 31 false ?_;refine Cs (fun D s wx hR _ hd _ _ hs K hK=>?_) ?_
   ·have e31:=hs.v 3 31 hd;have e39:=hs.v 11 39 hd;clear hs;go_simp;exact hK s wx sv hR
   refine Cs (fun D s wx hR _ hd _ _ hs K hK=>?_) ?_
   ·have e40:=hs.v 12 40 hd;clear hs;go_simp;exact hK s wx sv hR
   refine aj.skip 13 41 false ?_;refine aj.skip 13 41 false ?_;refine aj.skip 13 41 false ?_;refine aj.skip 13 41 false ?_;refine Cs (fun D s wx hR _ hd _ _ hs K hK=>?_) ?_
   ·have e41:=hs.v 13 41 hd;have e45:=hs.v 17 45 hd;clear hs;go_simp;exact hK s wx sv hR
   refine Cs (fun D s wx hR _ hd _ _ hs K hK=>?_) ?_
   ·have e46:=hs.v 18 46 hd;clear hs;go_simp;exact hK s wx sv hR
   exact aj.nil
  intro D s wx hR hD;simp only[eH,Act.put,aO,aU,aW];have dX:Hid (St w wx [ah w.heap.size 28 #[.int .i64 os,.slice G gn gc,.slice G' n' c',.slice D' dn dc,.int .i64 st],ah (w.heap.size+1) 64 #[.int .i64 k,.int .i64 m],ah (w.heap.size+2) 28 #[.int .i64 0,.slice none 0 0,.slice none 0 0,.slice none 0 0,.int .i64 0],ax (.slice A6 sl c6) sh,ax (.slice A8 rl c8) rest]):=af (hR.eG [0,1,2,3,4] (by decide) rfl);clear hR hD cu
  by_cases h1:k=1
  ·subst h1
   by_cases hm1:1≤m∧m≤dn
   case neg=>
    have HN:Bx (aZ b ⟨1,m⟩=none):=Bx.mk (by rw[Gw,if_neg (by rw[gy.out];exact hm1)]);have HLI:Bx (decide (1≤m∧m≤(dn:Int))=false):=Bx.mk (decide_eq_false hm1);clear hm1;have q1:=dX.out.cells 0 rfl;have q2:=dX.out.cells 1 rfl
    go_wp2_with fail
    refine(jf m 1 dn _).mono ?_;rw[HLI.out];rintro e w7 ⟨rfl,rfl⟩
    go_wp2_with fail
    refine(eP _ b D' dn dc b.done _ (lV.out.up dX.out.below) um.out (HD.out.up dX.out.below) (by omega)).mono ?_;rw[fB bG.out];rintro e w9 ⟨v9,rfl,s9⟩;obtain⟨A1,n1,c1,A2,n2,c2,A3,n3,c3,hv⟩:=s9.gU 0 rfl;rw[nP.out,kK.out] at hv;simp only[id_eq] at hv ⊢
    subst hv;have fP:=af (dX.out.call s9);have q9:=fP.out.cells 2 rfl;have f9:=fP.out.free 2 rfl;clear s9 q1 q2;go_wp2;obtain⟨e1,e2⟩:=fV bG.out HN.out;refine bodyPost_ret (v:=.tuple #[.agg #[.int .i64 os,.slice A1 n1 c1,.slice A2 n2 c2,.slice A3 n3 c3,.int .i64 st],.bool false]) (by simp[results,Tryz.results56,go_sem,q9]) rfl ⟨.agg #[.int .i64 os,.slice A1 n1 c1,.slice A2 n2 c2,.slice A3 n3 c3,.int .i64 st],by rw[e2],?_⟩;rw[e1];exact(fP.out.fF 2 rfl _ _ _ _ _).pick [5] (by decide) rfl rfl
   have HLI:Bx (decide (1≤m∧m≤(dn:Int))=true):=Bx.mk (decide_eq_true hm1);obtain⟨mm,rfl⟩:=bC (show 0≤m by omega);have HY:Bx (aZ b ⟨1,(mm:Int)⟩=some (b.done.take (dn-mm))):=Bx.mk (by rw[Gw,if_pos (by rw[gy.out];omega),gy.out,bW]);obtain⟨bb,off,x,hD',-⟩:=HD.out.get (show 0<dn by omega);subst hD';obtain⟨r,hr⟩:∃r,dn-mm=r:=⟨_,rfl⟩;have Ry:(dn:Int)-(mm:Int)=(r:Int):=by omega
   have hrn:r≤dn:=by omega
   have HWR:Hid (IntKind.i64.wrap (r:Int)=(r:Int)):=af (by rw[IntKind.wrap_i64];omega);have hrc:r≤dc:=by omega
   have afo:(r:Int)≤(dc:Int):=by omega
   rw[hr] at HY;clear hm1 hr;have q1:=dX.out.cells 0 rfl;have q2:=dX.out.cells 1 rfl
   go_wp2_with fail
   refine(jf (mm:Int) 1 dn _).mono ?_;rw[HLI.out];rintro e w7 ⟨rfl,rfl⟩;clear q1 q2
   go_upto_region 8 with(fail)
   refine kG (σ:=(Option Addr×Nat×Nat)×(Option Addr×Nat×Nat)×(Option Addr×Nat×Nat))
    (fun s i=>match i with
     |0=>.agg #[.int .i64 os,.slice G gn gc,.slice G' n' c',.slice (some ⟨bb,off,none⟩) dn dc,.int .i64 st]
     |1=>.pointer (some ⟨w.heap.size,3,none⟩)
     |2=>.slice (some ⟨bb,off,none⟩) dn dc
     |3=>.pointer (some ⟨w.heap.size,3,none⟩)
     |4=>.slice (some ⟨bb,off,none⟩) dn dc
     |5=>.int .i64 (dn:Int)
     |6=>.pointer (some ⟨(w.heap.size+1),1,none⟩)
     |7=>.int .i64 (mm:Int)
     |8=>.int .i64 (r:Int)
     |9=>.slice (some ⟨bb,off,none⟩) r dc
     |10=>.agg #[.int .i64 os,.slice s.1.1 s.1.2.1 s.1.2.2,.slice s.2.1.1 s.2.1.2.1 s.2.1.2.2,.slice s.2.2.1 s.2.2.2.1 s.2.2.2.2,.int .i64 (aC b.order os (b.done.take r))]
     |12=>.bool true
     |_=>undef)
    (fun D s wy=>Sn w wy fun i=>match i with
     |0=>some (ah w.heap.size 28 #[.int .i64 os,.slice G gn gc,.slice G' n' c',.slice (some ⟨bb,off,none⟩) dn dc,.int .i64 st])
     |1=>some (ah (w.heap.size+1) 64 #[.int .i64 1,.int .i64 (mm:Int)])
     |2=>some (ah (w.heap.size+2) 28 (if D 11=true then #[.int .i64 os,.slice s.1.1 s.1.2.1 s.1.2.2,.slice s.2.1.1 s.2.1.2.1 s.2.1.2.2,.slice s.2.2.1 s.2.2.2.1 s.2.2.2.2,.int .i64 (aC b.order os (b.done.take r))] else #[.int .i64 0,.slice none 0 0,.slice none 0 0,.slice none 0 0,.int .i64 0]))
     |3=>some (ax (.slice A6 sl c6) sh)
     |4=>some (ax (.slice A8 rl c8) rest)
     |5=>if D 10=true then some (aI (.agg #[.int .i64 os,.slice s.1.1 s.1.2.1 s.1.2.2,.slice s.2.1.1 s.2.1.2.1 s.2.1.2.2,.slice s.2.2.1 s.2.2.2.1 s.2.2.2.2,.int .i64 (aC b.order os (b.done.take r))]) (eX b (b.done.take r))) else none
     |_=>none)
    ((none,0,0),(none,0,0),(none,0,0)) ?_ ?_ ?_
   ·intro D hD;refine((Sn.dN dX.out).quiet ((ai _ _).drew)).congr fun i=>?_
    match i with
    |0 | 1=>rfl
    |2=>simp only[hD 11 (by decide)];rfl
    |3 | 4=>rfl
    |5=>simp only[hD 10 (by decide)];rfl
    |q+6=>rfl
   ·refine Cs (fun D s wy hR _ hd _ _ hs K hK=>?_) ?_
    ·have e2:=hs.o 2 (.pointer (some ⟨w.heap.size,0,none⟩));clear hs;have qk:=(hR.blk 0 rfl).cell;go_simp;exact hK s wy sv hR
    refine Cs (fun D s wy hR _ hd _ _ hs K hK=>?_) ?_
    ·have e2:=hs.o 2 (.pointer (some ⟨w.heap.size,0,none⟩));clear hs;go_simp;exact hK s wy sv hR
    refine Cs (fun D s wy hR _ hd _ _ hs K hK=>?_) ?_
    ·have e70:=hs.v 1 70 hd;clear hs;have qk:=(hR.blk 0 rfl).cell;go_simp;exact hK s wy sv hR
    refine Cs (fun D s wy hR _ hd _ _ hs K hK=>?_) ?_
    ·have e2:=hs.o 2 (.pointer (some ⟨w.heap.size,0,none⟩));clear hs;go_simp;exact hK s wy sv hR
    refine Cs (fun D s wy hR _ hd _ _ hs K hK=>?_) ?_
    ·have e72:=hs.v 3 72 hd;clear hs;have qk:=(hR.blk 0 rfl).cell;go_simp;exact hK s wy sv hR
    refine Cs (fun D s wy hR _ hd _ _ hs K hK=>?_) ?_
    ·have e73:=hs.v 4 73 hd;have g73:=aX e73;clear hs;go_simp;exact hK s wy sv hR
    refine Cs (fun D s wy hR _ hd _ _ hs K hK=>?_) ?_
    ·have e3:=hs.o 3 (.pointer (some ⟨(w.heap.size+1),0,none⟩));clear hs;go_simp;exact hK s wy sv hR
    refine Cs (fun D s wy hR _ hd _ _ hs K hK=>?_) ?_
    ·have e75:=hs.v 6 75 hd;clear hs;have qk:=(hR.blk 1 rfl).cell;go_simp;exact hK s wy sv hR
    refine Cs (fun D s wy hR _ hd _ _ hs K hK=>?_) ?_
    ·have e74:=hs.v 5 74 hd;have e76:=hs.v 7 76 hd;clear hs;have hwr:=HWR.out;go_simp;exact hK s wy sv hR
    refine Cs (fun D s wy hR _ hd _ _ hs K hK=>?_) ?_
    ·have e71:=hs.v 2 71 hd;have e77:=hs.v 8 77 hd;clear hs;go_simp;exact hK s wy sv hR
    refine Cs (fun D s wy hR (hDi:D 10=false) hd hsh _ hs K hK=>?_) ?_
    ·have e69:=hs.v 0 69 hd;have e78:=hs.v 9 78 hd;have g69:=aX e69;have g78:=aX e78;clear hs;have n11:D 11=false:=hsh.no hDi 11 rfl ⟨10,.data⟩ (by simp) rfl rfl;go_simp;refine(eP _ b (some ⟨bb,off,none⟩) r dc (b.done.take r) _ (lV.out.up hR.below) um.out (lW (HD.out.up hR.below) r (by omega)) (by omega)).mono ?_;rintro e2 w2 ⟨v2,rfl,s2⟩;obtain⟨A1,n1,c1,A2,n2,c2,A3,n3,c3,hv⟩:=s2.gU 0 rfl;rw[show(eX b (b.done.take r)).order.start=os from nP.out,show(eX b (b.done.take r)).state=aC b.order os (b.done.take r) from by rw[←nP.out];rfl] at hv;subst hv
     refine hK ((A1,n1,c1),(A2,n2,c2),(A3,n3,c3)) w2
      (fun j hj=>by
       match j,hj with
       |0,hj | 1,hj | 2,hj | 3,hj | 4,hj | 5,hj | 6,hj | 7,hj | 8,hj | 9,hj=>rfl
       |10,hj=>rw[hDi] at hj;cases hj
       |11,hj=>rw[n11] at hj;cases hj
       |12,hj=>rfl
       |_+13,hj=>rfl)
      ((hR.add 5 (if_neg (by rw[hDi];simp)) s2).congr
       (fun i=>by
        match i with
        |0 | 1=>rfl
        |2=>(show some (ah _ _ (if D 11=true then _ else _))=some (ah _ _ (if D 11=true then _ else _));rw[n11]<;>rfl)
        |3 | 4 | 5=>rfl
        |q+6=>exact(if_neg (show¬(q+6=5) by omega)).symm))
    refine Cs (fun D s wy hR (hDi:D 11=false) hd _ _ hs K hK=>?_) ?_
    ·have e4:=hs.o 4 (.pointer (some ⟨(w.heap.size+2),0,none⟩));have e79:=hs.v 10 79 hd;clear hs;have kb:fU wy (w.heap.size+2) 28 #[.int .i64 0,.slice none 0 0,.slice none 0 0,.slice none 0 0,.int .i64 0]:=hR.blk 2 (by simp only[hDi]<;>rfl);have f0:=kb.frozen;have qk:=kb.cell;go_simp
     exact hK s _ sv ((hR.fF 2 (by simp only[hDi];rfl) _ _ _ _ _).congr
      (fun i=>by
       match i with
       |0 | 1 | 2 | 3 | 4 | 5=>rfl
       |q+6=>exact(if_neg (show¬(q+6=2) by omega)).symm))
    refine Cs (fun D s wy hR _ hd _ _ hs K hK=>?_) ?_
    ·clear hs;go_simp;exact hK s wy sv hR
    exact aj.nil
   ·intro D s wy hR hD;simp only[eH,Act.put,aO,aU,aW];have fP:Hid (St w wy [ah (w.heap.size+2) 28 #[.int .i64 os,.slice s.1.1 s.1.2.1 s.1.2.2,.slice s.2.1.1 s.2.1.2.1 s.2.1.2.2,.slice s.2.2.1 s.2.2.2.1 s.2.2.2.2,.int .i64 (aC b.order os (b.done.take r))],aI (.agg #[.int .i64 os,.slice s.1.1 s.1.2.1 s.1.2.2,.slice s.2.1.1 s.2.1.2.1 s.2.1.2.2,.slice s.2.2.1 s.2.2.2.1 s.2.2.2.2,.int .i64 (aC b.order os (b.done.take r))]) (eX b (b.done.take r))]):=af (hR.eG [2,5] (by decide) (by simp only[List.map,hD 10 (by decide),hD 11 (by decide)]<;>rfl));clear hR hD dX;have q9:=fP.out.cells 0 rfl;go_wp2;obtain⟨e1,e2⟩:=iZ bG.out HY.out;refine bodyPost_ret (v:=.tuple #[.agg #[.int .i64 os,.slice s.1.1 s.1.2.1 s.1.2.2,.slice s.2.1.1 s.2.1.2.1 s.2.1.2.2,.slice s.2.2.1 s.2.2.2.1 s.2.2.2.2,.int .i64 (aC b.order os (b.done.take r))],.bool true]) (by simp[results,Tryz.results56,go_sem,q9]) rfl ⟨.agg #[.int .i64 os,.slice s.1.1 s.1.2.1 s.1.2.2,.slice s.2.1.1 s.2.1.2.1 s.2.1.2.2,.slice s.2.2.1 s.2.2.2.1 s.2.2.2.2,.int .i64 (aC b.order os (b.done.take r))],by rw[e2],?_⟩;rw[e1];exact fP.out.pick [1] (by decide) rfl rfl
  by_cases h2:k=2
  ·subst h2
   by_cases hm2:m=0∧sl<dn
   case neg=>
    have HN:Bx (aZ b ⟨2,m⟩=none):=Bx.mk (by rw[done2,Rz.out,if_neg (by rw[KZ.out,gy.out];exact hm2)])
    have hcase:(m == 0)=false∨(m=0∧¬(sl:Int)<(dn:Int)):=by
     by_cases h:m=0
     ·exact .inr ⟨h,by omega⟩
     ·exact .inl (by simpa using h)
    clear hm2
    rcases hcase with hm0 | ⟨rfl,hls⟩
    ·skip;have q1:=dX.out.cells 0 rfl;have q2:=dX.out.cells 1 rfl
     go_wp2_with fail
     refine(eP _ b D' dn dc b.done _ (lV.out.up dX.out.below) um.out (HD.out.up dX.out.below) (by omega)).mono ?_;rw[fB bG.out];rintro e w9 ⟨v9,rfl,s9⟩;obtain⟨A1,n1,c1,A2,n2,c2,A3,n3,c3,hv⟩:=s9.gU 0 rfl;rw[nP.out,kK.out] at hv;simp only[id_eq] at hv ⊢
     subst hv;have fP:=af (dX.out.call s9);have q9:=fP.out.cells 2 rfl;have f9:=fP.out.free 2 rfl;clear s9 q1 q2;go_wp2;obtain⟨e1,e2⟩:=fV bG.out HN.out;refine bodyPost_ret (v:=.tuple #[.agg #[.int .i64 os,.slice A1 n1 c1,.slice A2 n2 c2,.slice A3 n3 c3,.int .i64 st],.bool false]) (by simp[results,Tryz.results56,go_sem,q9]) rfl ⟨.agg #[.int .i64 os,.slice A1 n1 c1,.slice A2 n2 c2,.slice A3 n3 c3,.int .i64 st],by rw[e2],?_⟩;rw[e1];exact(fP.out.fF 2 rfl _ _ _ _ _).pick [5] (by decide) rfl rfl
    ·skip;have q1:=dX.out.cells 0 rfl;have q2:=dX.out.cells 1 rfl
     go_wp2_with fail
     refine(eP _ b D' dn dc b.done _ (lV.out.up dX.out.below) um.out (HD.out.up dX.out.below) (by omega)).mono ?_;rw[fB bG.out];rintro e w9 ⟨v9,rfl,s9⟩;obtain⟨A1,n1,c1,A2,n2,c2,A3,n3,c3,hv⟩:=s9.gU 0 rfl;rw[nP.out,kK.out] at hv;simp only[id_eq] at hv ⊢
     subst hv;have fP:=af (dX.out.call s9);have q9:=fP.out.cells 2 rfl;have f9:=fP.out.free 2 rfl;clear s9 q1 q2;go_wp2;obtain⟨e1,e2⟩:=fV bG.out HN.out;refine bodyPost_ret (v:=.tuple #[.agg #[.int .i64 os,.slice A1 n1 c1,.slice A2 n2 c2,.slice A3 n3 c3,.int .i64 st],.bool false]) (by simp[results,Tryz.results56,go_sem,q9]) rfl ⟨.agg #[.int .i64 os,.slice A1 n1 c1,.slice A2 n2 c2,.slice A3 n3 c3,.int .i64 st],by rw[e2],?_⟩;rw[e1];exact(fP.out.fF 2 rfl _ _ _ _ _).pick [5] (by decide) rfl rfl
   obtain⟨rfl,hls⟩:=hm2;have HY:Bx (aZ b ⟨2,0⟩=some sh):=Bx.mk (by rw[done2,Rz.out,if_pos (by rw[KZ.out,gy.out];exact⟨rfl,hls⟩)]);have afp:(sl:Int)<(dn:Int):=by omega
   have q1:=dX.out.cells 0 rfl;have q2:=dX.out.cells 1 rfl
   go_wp2_with fail
   refine(eP _ b A6 sl c6 sh _ (lV.out.up dX.out.below) um.out (dX.out.oZ 3 rfl) (by omega)).mono ?_;rintro e w9 ⟨v9,rfl,s9⟩;obtain⟨A1,n1,c1,A2,n2,c2,A3,n3,c3,hv⟩:=s9.gU 0 rfl;obtain⟨z,hz⟩:∃z,(eX b sh).state=z:=⟨_,rfl⟩;rw[show(eX b sh).order.start=os from nP.out,hz] at hv;simp only[id_eq] at hv ⊢
   subst hv;have fP:=af (dX.out.call s9);have q9:=fP.out.cells 2 rfl;have f9:=fP.out.free 2 rfl;clear s9 q1 q2 hz;go_wp2;obtain⟨e1,e2⟩:=iZ bG.out HY.out;refine bodyPost_ret (v:=.tuple #[.agg #[.int .i64 os,.slice A1 n1 c1,.slice A2 n2 c2,.slice A3 n3 c3,.int .i64 z],.bool true]) (by simp[results,Tryz.results56,go_sem,q9]) rfl ⟨.agg #[.int .i64 os,.slice A1 n1 c1,.slice A2 n2 c2,.slice A3 n3 c3,.int .i64 z],by rw[e2],?_⟩;rw[e1];exact(fP.out.fF 2 rfl _ _ _ _ _).pick [5] (by decide) rfl rfl
  by_cases h3:k=3
  ·subst h3
   by_cases hm3:m=0∧0<rl∧dn+rl≤40
   case neg=>
    have HN:Bx (aZ b ⟨3,m⟩=none):=Bx.mk (by rw[Gx,HRE.out,if_neg (by rw[HRL.out,gy.out];exact hm3)])
    have hcase:(m == 0)=false∨(m=0∧rs=false)∨(m=0∧rs=true∧¬(0:Int)<(rl:Int))∨(m=0∧rs=true∧(0:Int)<(rl:Int)∧¬(dn:Int)+(rl:Int)≤40):=by
     by_cases h:m=0
     ·right
      cases rs with
      |false=>exact .inl ⟨h,rfl⟩
      |true=>
       right
       by_cases h':0<rl
       ·exact .inr ⟨h,rfl,by omega,by omega⟩
       ·exact .inl ⟨h,rfl,by omega⟩
     ·exact .inl (by simpa using h)
    clear hm3
    rcases hcase with hm0 | ⟨rfl,rfl⟩ | ⟨rfl,rfl,hr0⟩ | ⟨rfl,rfl,hr0,uf⟩
    ·skip;have q1:=dX.out.cells 0 rfl;have q2:=dX.out.cells 1 rfl
     go_wp2_with fail
     refine(eP _ b D' dn dc b.done _ (lV.out.up dX.out.below) um.out (HD.out.up dX.out.below) (by omega)).mono ?_;rw[fB bG.out];rintro e w9 ⟨v9,rfl,s9⟩;obtain⟨A1,n1,c1,A2,n2,c2,A3,n3,c3,hv⟩:=s9.gU 0 rfl;rw[nP.out,kK.out] at hv;simp only[id_eq] at hv ⊢
     subst hv;have fP:=af (dX.out.call s9);have q9:=fP.out.cells 2 rfl;have f9:=fP.out.free 2 rfl;clear s9 q1 q2;go_wp2;obtain⟨e1,e2⟩:=fV bG.out HN.out;refine bodyPost_ret (v:=.tuple #[.agg #[.int .i64 os,.slice A1 n1 c1,.slice A2 n2 c2,.slice A3 n3 c3,.int .i64 st],.bool false]) (by simp[results,Tryz.results56,go_sem,q9]) rfl ⟨.agg #[.int .i64 os,.slice A1 n1 c1,.slice A2 n2 c2,.slice A3 n3 c3,.int .i64 st],by rw[e2],?_⟩;rw[e1];exact(fP.out.fF 2 rfl _ _ _ _ _).pick [5] (by decide) rfl rfl
    ·skip;have q1:=dX.out.cells 0 rfl;have q2:=dX.out.cells 1 rfl
     go_wp2_with fail
     refine(eP _ b D' dn dc b.done _ (lV.out.up dX.out.below) um.out (HD.out.up dX.out.below) (by omega)).mono ?_;rw[fB bG.out];rintro e w9 ⟨v9,rfl,s9⟩;obtain⟨A1,n1,c1,A2,n2,c2,A3,n3,c3,hv⟩:=s9.gU 0 rfl;rw[nP.out,kK.out] at hv;simp only[id_eq] at hv ⊢
     subst hv;have fP:=af (dX.out.call s9);have q9:=fP.out.cells 2 rfl;have f9:=fP.out.free 2 rfl;clear s9 q1 q2;go_wp2;obtain⟨e1,e2⟩:=fV bG.out HN.out;refine bodyPost_ret (v:=.tuple #[.agg #[.int .i64 os,.slice A1 n1 c1,.slice A2 n2 c2,.slice A3 n3 c3,.int .i64 st],.bool false]) (by simp[results,Tryz.results56,go_sem,q9]) rfl ⟨.agg #[.int .i64 os,.slice A1 n1 c1,.slice A2 n2 c2,.slice A3 n3 c3,.int .i64 st],by rw[e2],?_⟩;rw[e1];exact(fP.out.fF 2 rfl _ _ _ _ _).pick [5] (by decide) rfl rfl
    ·skip;have q1:=dX.out.cells 0 rfl;have q2:=dX.out.cells 1 rfl
     go_wp2_with fail
     refine(eP _ b D' dn dc b.done _ (lV.out.up dX.out.below) um.out (HD.out.up dX.out.below) (by omega)).mono ?_;rw[fB bG.out];rintro e w9 ⟨v9,rfl,s9⟩;obtain⟨A1,n1,c1,A2,n2,c2,A3,n3,c3,hv⟩:=s9.gU 0 rfl;rw[nP.out,kK.out] at hv;simp only[id_eq] at hv ⊢
     subst hv;have fP:=af (dX.out.call s9);have q9:=fP.out.cells 2 rfl;have f9:=fP.out.free 2 rfl;clear s9 q1 q2;go_wp2;obtain⟨e1,e2⟩:=fV bG.out HN.out;refine bodyPost_ret (v:=.tuple #[.agg #[.int .i64 os,.slice A1 n1 c1,.slice A2 n2 c2,.slice A3 n3 c3,.int .i64 st],.bool false]) (by simp[results,Tryz.results56,go_sem,q9]) rfl ⟨.agg #[.int .i64 os,.slice A1 n1 c1,.slice A2 n2 c2,.slice A3 n3 c3,.int .i64 st],by rw[e2],?_⟩;rw[e1];exact(fP.out.fF 2 rfl _ _ _ _ _).pick [5] (by decide) rfl rfl
    ·skip;have q1:=dX.out.cells 0 rfl;have q2:=dX.out.cells 1 rfl
     go_wp2_with fail
     refine(eP _ b D' dn dc b.done _ (lV.out.up dX.out.below) um.out (HD.out.up dX.out.below) (by omega)).mono ?_;rw[fB bG.out];rintro e w9 ⟨v9,rfl,s9⟩;obtain⟨A1,n1,c1,A2,n2,c2,A3,n3,c3,hv⟩:=s9.gU 0 rfl;rw[nP.out,kK.out] at hv;simp only[id_eq] at hv ⊢
     subst hv;have fP:=af (dX.out.call s9);have q9:=fP.out.cells 2 rfl;have f9:=fP.out.free 2 rfl;clear s9 q1 q2;go_wp2;obtain⟨e1,e2⟩:=fV bG.out HN.out;refine bodyPost_ret (v:=.tuple #[.agg #[.int .i64 os,.slice A1 n1 c1,.slice A2 n2 c2,.slice A3 n3 c3,.int .i64 st],.bool false]) (by simp[results,Tryz.results56,go_sem,q9]) rfl ⟨.agg #[.int .i64 os,.slice A1 n1 c1,.slice A2 n2 c2,.slice A3 n3 c3,.int .i64 st],by rw[e2],?_⟩;rw[e1];exact(fP.out.fF 2 rfl _ _ _ _ _).pick [5] (by decide) rfl rfl
   obtain⟨rfl,hr0,uf⟩:=hm3
   have ad5:rs=true:=by
    cases rs with
    |false=>have:=ad3 rfl;omega
    |true=>rfl
   subst ad5;have HY:Bx (aZ b ⟨3,0⟩=some (b.done++rest)):=Bx.mk (by rw[Gx,HRE.out,if_pos (by rw[HRL.out,gy.out];exact⟨rfl,hr0,uf⟩)]);have adE:(0:Int)<(rl:Int):=by omega
   have YH:(dn:Int)+(rl:Int)≤40:=by omega
   have q1:=dX.out.cells 0 rfl;have q2:=dX.out.cells 1 rfl
   go_upto_region 12 with(fail)
   clear q1 q2
   refine kG (σ:=Nat×(Option Addr×Nat)×(Option Addr×Nat)×(Option Addr×Nat×Nat)×(Option Addr×Nat×Nat)×(Option Addr×Nat×Nat))
    (fun s i=>match i with
     |0=>.agg #[.int .i64 os,.slice G gn gc,.slice G' n' c',.slice D' dn dc,.int .i64 st]
     |1=>.slice (some ⟨s.1,0,none⟩) 0 0
     |2=>.pointer (some ⟨w.heap.size,3,none⟩)
     |3=>.slice D' dn dc
     |4=>.slice s.2.1.1 (0+dn) s.2.1.2
     |5=>.slice A8 rl c8
     |6=>.slice s.2.2.1.1 (dn+rl) s.2.2.1.2
     |7=>.agg #[.int .i64 os,.slice s.2.2.2.1.1 s.2.2.2.1.2.1 s.2.2.2.1.2.2,.slice s.2.2.2.2.1.1 s.2.2.2.2.1.2.1 s.2.2.2.2.1.2.2,.slice s.2.2.2.2.2.1 s.2.2.2.2.2.2.1 s.2.2.2.2.2.2.2,.int .i64 (aC b.order os (b.done++rest))]
     |9=>.bool true
     |_=>undef)
    (fun D s wy=>Sn w wy fun i=>match i with
     |0=>some (ah w.heap.size 28 #[.int .i64 os,.slice G gn gc,.slice G' n' c',.slice D' dn dc,.int .i64 st])
     |1=>some (ah (w.heap.size+1) 64 #[.int .i64 3,.int .i64 0])
     |2=>some (ah (w.heap.size+2) 28 (if D 8=true then #[.int .i64 os,.slice s.2.2.2.1.1 s.2.2.2.1.2.1 s.2.2.2.1.2.2,.slice s.2.2.2.2.1.1 s.2.2.2.2.1.2.1 s.2.2.2.2.1.2.2,.slice s.2.2.2.2.2.1 s.2.2.2.2.2.2.1 s.2.2.2.2.2.2.2,.int .i64 (aC b.order os (b.done++rest))] else #[.int .i64 0,.slice none 0 0,.slice none 0 0,.slice none 0 0,.int .i64 0]))
     |3=>some (ax (.slice A6 sl c6) sh)
     |4=>some (ax (.slice A8 rl c8) rest)
     |5=>if D 6=true then some (ax (.slice s.2.2.1.1 (dn+rl) s.2.2.1.2) (b.done++rest)) else if D 4=true then some (ax (.slice s.2.1.1 (0+dn) s.2.1.2) ([]++b.done)) else if D 1=true then some (ax (.slice (some ⟨s.1,0,none⟩) 0 0) []) else none
     |6=>if D 7=true then some (aI (.agg #[.int .i64 os,.slice s.2.2.2.1.1 s.2.2.2.1.2.1 s.2.2.2.1.2.2,.slice s.2.2.2.2.1.1 s.2.2.2.2.1.2.1 s.2.2.2.2.1.2.2,.slice s.2.2.2.2.2.1 s.2.2.2.2.2.2.1 s.2.2.2.2.2.2.2,.int .i64 (aC b.order os (b.done++rest))]) (eX b (b.done++rest))) else none
     |_=>none)
    (0,(none,0),(none,0),((none,0,0),(none,0,0),(none,0,0))) ?_ ?_ ?_
   ·intro D hD;refine((Sn.dN dX.out).quiet ((ai _ _).drew)).congr fun i=>?_
    match i with
    |0 | 1=>rfl
    |2=>simp only[hD 8 (by decide)];rfl
    |3 | 4=>rfl
    |5=>simp only[hD 6 (by decide),hD 4 (by decide),hD 1 (by decide)];rfl
    |6=>simp only[hD 7 (by decide)];rfl
    |q+7=>rfl
   ·refine Cs (fun D s wy hR _ hd _ _ hs K hK=>?_) ?_
    ·have e2:=hs.o 2 (.pointer (some ⟨w.heap.size,0,none⟩));clear hs;have qk:=(hR.blk 0 rfl).cell;go_simp;exact hK s wy sv hR
    refine Cs (fun D s wy hR (hDi:D 1=false) hd hsh _ hs K hK=>?_) ?_
    ·clear hs;have n4:D 4=false:=hsh.no hDi 4 rfl ⟨1,.data⟩ (by simp) rfl rfl;have n6:D 6=false:=hsh.no n4 6 rfl ⟨4,.data⟩ (by simp) rfl rfl;have n7:D 7=false:=hsh.no n6 7 rfl ⟨6,.data⟩ (by simp) rfl rfl;have n8:D 8=false:=hsh.no n7 8 rfl ⟨7,.data⟩ (by simp) rfl rfl;go_simp
     refine hK (wy.heap.size,s.2) _
      (fun j hj=>by
       match j,hj with
       |0,hj=>rfl
       |1,hj=>rw[hDi] at hj;cases hj
       |2,hj | 3,hj=>rfl
       |4,hj=>rw[n4] at hj;cases hj
       |5,hj=>rfl
       |6,hj=>rw[n6] at hj;cases hj
       |7,hj=>rw[n7] at hj;cases hj
       |8,hj=>rw[n8] at hj;cases hj
       |9,hj=>rfl
       |_+10,hj=>rfl)
      ((hR.add 5 (by simp only[n6,n4,hDi];rfl) (St.yA wy wy.heap.size rfl)).congr
       (fun i=>by
        match i with
        |0 | 1 | 2 | 3 | 4=>rfl
        |5=>(show(if D 6=true then _ else if D 4=true then _ else _)=_;rw[n6,n4];rfl)
        |6=>rfl
        |q+7=>exact(if_neg (show¬(q+7=5) by omega)).symm))
    refine Cs (fun D s wy hR _ hd _ _ hs K hK=>?_) ?_
    ·have e2:=hs.o 2 (.pointer (some ⟨w.heap.size,0,none⟩));clear hs;go_simp;exact hK s wy sv hR
    refine Cs (fun D s wy hR _ hd _ _ hs K hK=>?_) ?_
    ·have e128:=hs.v 2 128 hd;clear hs;have qk:=(hR.blk 0 rfl).cell;go_simp;exact hK s wy sv hR
    refine Cs (fun D s wy hR (hDi:D 4=false) hd hsh _ hs K hK=>?_) ?_
    ·have e127:=hs.v 1 127 hd;have e129:=hs.v 3 129 hd;have afq:=aX e127;have afr:=aX e129;clear hs;have n6:D 6=false:=hsh.no hDi 6 rfl ⟨4,.data⟩ (by simp) rfl rfl;have n7:D 7=false:=hsh.no n6 7 rfl ⟨6,.data⟩ (by simp) rfl rfl;have n8:D 8=false:=hsh.no n7 8 rfl ⟨7,.data⟩ (by simp) rfl rfl;have d1:D 1=true:=hd ⟨1,.data⟩ (by simp) rfl;have ho:=hR.qA 5 (v:=.slice (some ⟨s.1,0,none⟩) 0 0) (xs:=[]) (by simp only[n6,hDi,d1];rfl);simp only[List.length_nil] at ho;refine ni iR (.tmp 127) (.tmp 129) rfl 0 _ 0 _ e127 ho _ D' dn dc _ e129 (HD.out.up hR.below).row (gG _) (by omega) (by omega) (by omega) ?_;intro v' w' hown hg hat;obtain⟨A4,c4,hv⟩:=dR hown;subst hv
     refine hK (s.1,(A4,c4),s.2.2) w'
      (fun j hj=>by
       match j,hj with
       |0,hj | 1,hj | 2,hj | 3,hj=>rfl
       |4,hj=>rw[hDi] at hj;cases hj
       |5,hj=>rfl
       |6,hj=>rw[n6] at hj;cases hj
       |7,hj=>rw[n7] at hj;cases hj
       |8,hj=>rw[n8] at hj;cases hj
       |9,hj=>rfl
       |_+10,hj=>rfl)
      ((hR.G8 5 (v:=.slice (some ⟨s.1,0,none⟩) 0 0) (xs:=[]) (ys:=b.done) (by simp only[n6,hDi,d1];rfl) (by rw[gy.out];rfl) hown HDW.out hg hat).congr
       (fun i=>by
        match i with
        |0 | 1 | 2 | 3 | 4=>rfl
        |5=>(show(if D 6=true then _ else _)=_;rw[n6];rfl)
        |6=>rfl
        |q+7=>exact(if_neg (show¬(q+7=5) by omega)).symm))
    refine Cs (fun D s wy hR _ hd _ _ hs K hK=>?_) ?_
    ·have e8:=hs.o 8 (.slice A8 rl c8);clear hs;go_simp;exact hK s wy sv hR
    refine Cs (fun D s wy hR (hDi:D 6=false) hd hsh _ hs K hK=>?_) ?_
    ·have acE:=hs.v 4 130 hd;have acF:=hs.v 5 131 hd;have afs:=aX acE;have aft:=aX acF;clear hs;have n7:D 7=false:=hsh.no hDi 7 rfl ⟨6,.data⟩ (by simp) rfl rfl;have n8:D 8=false:=hsh.no n7 8 rfl ⟨7,.data⟩ (by simp) rfl rfl;have d4:D 4=true:=hd ⟨4,.data⟩ (by simp) rfl;have ho:=hR.qA 5 (v:=.slice s.2.1.1 (0+dn) s.2.1.2) (xs:=[]++b.done) (by simp only[hDi,d4];rfl);rw[List.nil_append,gy.out] at ho;have hr:=hR.oZ 4 (A:=A8) (n:=rl) (c:=c8) (xs:=rest) rfl;refine ni iR (.tmp 130) (.tmp 131) rfl 0 _ dn _ acE ho _ _ rl c8 _ acF hr.row (gG _) (by omega) (by omega) (by omega) ?_;intro v' w' hown hg hat;obtain⟨A4,c4,hv⟩:=dR hown;subst hv
     refine hK (s.1,s.2.1,(A4,c4),s.2.2.2) w'
      (fun j hj=>by
       match j,hj with
       |0,hj | 1,hj | 2,hj | 3,hj | 4,hj | 5,hj=>rfl
       |6,hj=>rw[hDi] at hj;cases hj
       |7,hj=>rw[n7] at hj;cases hj
       |8,hj=>rw[n8] at hj;cases hj
       |9,hj=>rfl
       |_+10,hj=>rfl)
      ((hR.G8 5 (v:=.slice s.2.1.1 (0+dn) s.2.1.2) (xs:=b.done) (ys:=rest) (by simp only[hDi,d4];rfl) (by rw[gy.out,HRL.out]) hown hr.wf hg hat).congr
       (fun i=>by
        match i with
        |0 | 1 | 2 | 3 | 4 | 5 | 6=>rfl
        |q+7=>exact(if_neg (show¬(q+7=5) by omega)).symm))
    refine Cs (fun D s wy hR (hDi:D 7=false) hd hsh _ hs K hK=>?_) ?_
    ·have e126:=hs.v 0 126 hd;have ad6:=hs.v 6 132 hd;have afu:=aX e126;have afv:=aX ad6;clear hs;have n8:D 8=false:=hsh.no hDi 8 rfl ⟨7,.data⟩ (by simp) rfl rfl;have d6:D 6=true:=hd ⟨6,.data⟩ (by simp) rfl;go_simp;refine(eP _ b s.2.2.1.1 (dn+rl) s.2.2.1.2 (b.done++rest) _ (lV.out.up hR.below) um.out (hR.oZ 5 (A:=s.2.2.1.1) (n:=dn+rl) (c:=s.2.2.1.2) (xs:=b.done++rest) (by simp only[d6];rfl)) (by omega)).mono ?_;rintro e2 w2 ⟨v2,rfl,s2⟩;obtain⟨A1,n1,c1,A2,n2,c2,A3,n3,c3,hv⟩:=s2.gU 0 rfl;rw[show(eX b (b.done++rest)).order.start=os from nP.out,show(eX b (b.done++rest)).state=aC b.order os (b.done++rest) from by rw[←nP.out];rfl] at hv;subst hv
     refine hK (s.1,s.2.1,s.2.2.1,(A1,n1,c1),(A2,n2,c2),(A3,n3,c3)) w2
      (fun j hj=>by
       match j,hj with
       |0,hj | 1,hj | 2,hj | 3,hj | 4,hj | 5,hj | 6,hj=>rfl
       |7,hj=>rw[hDi] at hj;cases hj
       |8,hj=>rw[n8] at hj;cases hj
       |9,hj=>rfl
       |_+10,hj=>rfl)
      ((hR.add 6 (if_neg (by rw[hDi];simp)) s2).congr
       (fun i=>by
        match i with
        |0 | 1=>rfl
        |2=>(show some (ah _ _ (if D 8=true then _ else _))=some (ah _ _ (if D 8=true then _ else _));rw[n8]<;>rfl)
        |3 | 4 | 5 | 6=>rfl
        |q+7=>exact(if_neg (show¬(q+7=6) by omega)).symm))
    refine Cs (fun D s wy hR (hDi:D 8=false) hd _ _ hs K hK=>?_) ?_
    ·have e4:=hs.o 4 (.pointer (some ⟨(w.heap.size+2),0,none⟩));have afw:=hs.v 7 133 hd;clear hs;have kb:fU wy (w.heap.size+2) 28 #[.int .i64 0,.slice none 0 0,.slice none 0 0,.slice none 0 0,.int .i64 0]:=hR.blk 2 (by simp only[hDi]<;>rfl);have f0:=kb.frozen;have qk:=kb.cell;go_simp
     exact hK s _ sv ((hR.fF 2 (by simp only[hDi];rfl) _ _ _ _ _).congr
      (fun i=>by
       match i with
       |0 | 1 | 2 | 3 | 4 | 5 | 6=>rfl
       |q+7=>exact(if_neg (show¬(q+7=2) by omega)).symm))
    refine Cs (fun D s wy hR _ hd _ _ hs K hK=>?_) ?_
    ·clear hs;go_simp;exact hK s wy sv hR
    exact aj.nil
   ·intro D s wy hR hD;simp only[eH,Act.put,aO,aU,aW];have fP:Hid (St w wy [ah (w.heap.size+2) 28 #[.int .i64 os,.slice s.2.2.2.1.1 s.2.2.2.1.2.1 s.2.2.2.1.2.2,.slice s.2.2.2.2.1.1 s.2.2.2.2.1.2.1 s.2.2.2.2.1.2.2,.slice s.2.2.2.2.2.1 s.2.2.2.2.2.2.1 s.2.2.2.2.2.2.2,.int .i64 (aC b.order os (b.done++rest))],aI (.agg #[.int .i64 os,.slice s.2.2.2.1.1 s.2.2.2.1.2.1 s.2.2.2.1.2.2,.slice s.2.2.2.2.1.1 s.2.2.2.2.1.2.1 s.2.2.2.2.1.2.2,.slice s.2.2.2.2.2.1 s.2.2.2.2.2.2.1 s.2.2.2.2.2.2.2,.int .i64 (aC b.order os (b.done++rest))]) (eX b (b.done++rest))]):=af (hR.eG [2,6] (by decide) (by simp only[List.map,hD 7 (by decide),hD 8 (by decide)]<;>rfl));clear hR hD dX;have q9:=fP.out.cells 0 rfl;go_wp2;obtain⟨e1,e2⟩:=iZ bG.out HY.out;refine bodyPost_ret (v:=.tuple #[.agg #[.int .i64 os,.slice s.2.2.2.1.1 s.2.2.2.1.2.1 s.2.2.2.1.2.2,.slice s.2.2.2.2.1.1 s.2.2.2.2.1.2.1 s.2.2.2.2.1.2.2,.slice s.2.2.2.2.2.1 s.2.2.2.2.2.2.1 s.2.2.2.2.2.2.2,.int .i64 (aC b.order os (b.done++rest))],.bool true]) (by simp[results,Tryz.results56,go_sem,q9]) rfl ⟨.agg #[.int .i64 os,.slice s.2.2.2.1.1 s.2.2.2.1.2.1 s.2.2.2.1.2.2,.slice s.2.2.2.2.1.1 s.2.2.2.2.1.2.1 s.2.2.2.2.1.2.2,.slice s.2.2.2.2.2.1 s.2.2.2.2.2.2.1 s.2.2.2.2.2.2.2,.int .i64 (aC b.order os (b.done++rest))],by rw[e2],?_⟩;rw[e1];exact fP.out.pick [1] (by decide) rfl rfl
  have HN:=Bx.mk (YE (b:=b) (m:=m) h0 h1 h2 h3);have h0':(k == 0)=false:=by simpa using h0
  have h1':(k == 1)=false:=by simpa using h1
  have h2':(k == 2)=false:=by simpa using h2
  have h3':(k == 3)=false:=by simpa using h3
  clear h0 h1 h2 h3;have q1:=dX.out.cells 0 rfl;have q2:=dX.out.cells 1 rfl
  go_wp2_with fail
  refine(eP _ b D' dn dc b.done _ (lV.out.up dX.out.below) um.out (HD.out.up dX.out.below) (by omega)).mono ?_;rw[fB bG.out];rintro e w9 ⟨v9,rfl,s9⟩;obtain⟨A1,n1,c1,A2,n2,c2,A3,n3,c3,hv⟩:=s9.gU 0 rfl;rw[nP.out,kK.out] at hv;simp only[id_eq] at hv ⊢
  subst hv;have fP:=af (dX.out.call s9);have q9:=fP.out.cells 2 rfl;have f9:=fP.out.free 2 rfl;clear s9 q1 q2;go_wp2;obtain⟨e1,e2⟩:=fV bG.out HN.out;refine bodyPost_ret (v:=.tuple #[.agg #[.int .i64 os,.slice A1 n1 c1,.slice A2 n2 c2,.slice A3 n3 c3,.int .i64 st],.bool false]) (by simp[results,Tryz.results56,go_sem,q9]) rfl ⟨.agg #[.int .i64 os,.slice A1 n1 c1,.slice A2 n2 c2,.slice A3 n3 c3,.int .i64 st],by rw[e2],?_⟩;rw[e1];exact(fP.out.fF 2 rfl _ _ _ _ _).pick [5] (by decide) rfl rfl
end Go.Proofs.YtkmcengmglgdeaaGreatDoor
