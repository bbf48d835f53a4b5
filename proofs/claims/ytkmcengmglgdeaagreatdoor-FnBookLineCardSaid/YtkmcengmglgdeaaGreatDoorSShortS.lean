/- Joined texts: ShortS, Conc. -/
import Derived.Test.YtkmcengmglgdeaaGreatDoorSShortI
import Derived.Test.YtkmcengmglgdeaaGreatDoorSPerm
import Derived.Lib.AppendZeros

namespace Go.Proofs.YtkmcengmglgdeaaGreatDoor
set_option linter.unusedVariables false
set_option linter.unusedSimpArgs false
set_option maxRecDepth 100000
set_option maxHeartbeats 8000000
open Go.ChangeShapes Go.WideShapes Go.ChangeAt Go.RowKit
theorem Ac {w:World} {base g k c s:Nat} {e:TypeId} {size n:Nat} {v:Value} {xs:List Value} (h:w.ownsRow base e size v n xs) (hat:v.ownBlock=(Value.slice (some ⟨g,0,none⟩) k c).ownBlock∨v.ownBlock=some s):∃b c',v= .slice (some ⟨b,0,none⟩) n c':=by
 rcases h.2 with⟨rfl,-⟩ | ⟨g',cap,cur,rfl,-⟩
 ·rcases hat with h | h<;>cases h
 ·exact⟨g',cap,rfl⟩
theorem LV {t:aB} {p q:List Int} {a:Nat} (h:jh t p a=q) (hq:q.length<a):∀n,jh t p (a+n)=q:=fun n=>by
 induction n with
 |zero=>exact h
 |succ n ih=>
  show cutAt t (jh t p (a+n)) (a+n)=q
  rw[ih];exact xC t q _ (by omega)
theorem Em (v:Value) (t:aB) (A:Option Addr) (n c:Nat) (p:List Int) (w:World) (h:oW w w.heap.size v t) (hp:jd .i64 w w.heap.size A n c p):
  Calls Tryz.prog 123 #[v,.slice A n c] w (Gives w (fun v=>.tuple #[v,.bool (fK t p).isSome]) fun v=>[ax v ((fK t p).getD [])]):=by
 have h':=h;obtain⟨G,gn,gc,G',n',c',rfl,hg,hgs,hds,hst⟩:=h;have HT:=af h';have HP:=af hp;have BO:=af hp.len;have XD:=af hp.wf;have hcap:=hp.cap;have hcm:=hp.dw
 unfold maxLen at hcm
 obtain⟨ts,hts⟩:∃x,t.start=x:=⟨_,rfl⟩;have Vj:=Bx.mk hts;rw[hts] at HT ⊢
 have aS:=af ((St.refl w).alloc #[.int .i64 ts,.slice G gn gc,.slice G' n' c'] 26);clear hds h' hg hp hts hst;obtain⟨z0,hz0⟩:∃z,aC t ts p=z:=⟨_,rfl⟩;have HZ:=Bx.mk hz0;clear hz0
 by_cases hneg:z0<0
 ·have HN:Bx (fK t p=none):=Bx.mk (yN t p (by rw[Vj.out,HZ.out];exact hneg));go_enter Tryz.func123,Tryz.ntmps123
  go_wp2_with fail
  refine(jy _ t ts A n c p _ (HT.out.up aS.out.below) (HP.out.up aS.out.below)).mono ?_;rw[HZ.out];rintro e w1 ⟨rfl,hb1⟩;have bf:=af ((aS.out.quiet hb1).call (St.yA _ _ rfl));clear hb1;go_wp2;refine bodyPost_ret (v:=.tuple #[.slice (some ⟨w1.heap.size,0,none⟩) 0 0,.bool false]) (by simp[results,Tryz.results123,go_sem]) rfl ⟨.slice (some ⟨w1.heap.size,0,none⟩) 0 0,by rw[HN.out];rfl,?_⟩;rw[HN.out];exact bf.out.pick [1] (by decide) rfl rfl
 ·have hz0:0≤aC t t.start p:=by rw[Vj.out,HZ.out];omega
  have HR:=Bx.mk hz0;obtain⟨hok,hsi,Vk,-⟩:=(fE t t.start p).1 hz0;have HY:=Bx.mk (wW t p hz0);have kQ:n≤40:=by rw[←BO.out];exact Vk
  clear hz0 hok hsi Vk;go_enter Tryz.func123,Tryz.ntmps123
  go_wp2_with fail
  refine(jy _ t ts A n c p _ (HT.out.up aS.out.below) (HP.out.up aS.out.below)).mono ?_;rw[HZ.out];rintro e w1 ⟨rfl,hb1⟩;have bf:=af ((aS.out.quiet hb1).call (St.yA _ _ rfl));have HOW:=af (bf.out.qA 1 rfl);have HPR:=af (HP.out.up bf.out.below).row;clear hb1 aS;simp only[List.length_nil] at HOW
  go_wp2_with (at_builtin;refine cZ iR rfl _ _ rfl 0 (.slice (some ⟨w1.heap.size,0,none⟩) 0 0) 0 (ints []) rfl HOW.out _ A n c (ints p) rfl HPR.out (gG _) (by omega) (by omega) (Nat.zero_le _) ?_;intro v2 w2 hown2 hg2 ug)
  obtain⟨b0,c0,hv2⟩:=Ac hown2 ug;subst hv2
  have HS2:Hid (St w w2 [ah w.heap.size 26 #[.int .i64 ts,.slice G gn gc,.slice G' n' c'],ax (.slice (some ⟨b0,0,none⟩) n c0) p]):=af (by
   have:=bf.out.rY (ys:=p) 1 rfl (by rw[BO.out];simp) hown2 XD.out hg2 ug
   rw[Nat.zero_add] at this
   exact this)
  clear hown2 hg2 ug bf HOW HPR
  try rw[Nat.zero_add]
  go_wp2
  go_loopw [7,6] (fun av x6 wr=>∃(a z b c:Nat) (q:List Int),av= .int .i64 a∧x6= .slice (some ⟨b,0,none⟩) z c∧a≤z+1∧z≤40∧Bx (q.length=z)∧Bx (jh t p a=q)∧Bx (0≤aC t t.start q)∧St w wr [ah w.heap.size 26 #[.int .i64 ts,.slice G gn gc,.slice G' n' c'],ax (.slice (some ⟨b,0,none⟩) z c) q]) (fun av x6 _=>lenV x6+1-(intOf av).toNat)
  case atStart=>exact⟨0,n,b0,c0,p,rfl,by simp,by omega,by omega,Bx.mk BO.out,Bx.mk rfl,HR,HS2.out⟩
  case round=>
   clear HS2;obtain⟨a,z,b,c,q,rfl,rfl,haz,hz,BR,zB,HRQ,S⟩:=hrel;have cu:=af S;have hzc:z≤c:=(S.oZ 1 rfl).cap;have ad7:c≤maxLen:=(S.oZ 1 rfl).dw
   unfold maxLen at ad7
   clear S
   by_cases hle:a≤z
   ·have afx:(a:Int)≤(z:Int):=by omega
    have hac:a≤c:=by omega
    have afy:(a:Int)≤(c:Int):=by omega
    obtain⟨u,hu⟩:∃u,aC t ts (q.take a)=u:=⟨_,rfl⟩;have HU:=Bx.mk hu;have HUP:Bx (prun t q a=u):=Bx.mk (by unfold prun;rw[Vj.out,HU.out]);clear hu
    go_upto_region 7 with(fail)
    refine kG (σ:=Unit)
     (fun s i=>match i with
      |0=>.agg #[.int .i64 ts,.slice G gn gc,.slice G' n' c']
      |1=>.pointer (some ⟨w.heap.size,0,none⟩)
      |2=>.int .i64 ts
      |3=>.slice (some ⟨b,0,none⟩) z c
      |4=>.int .i64 (a:Int)
      |5=>.slice (some ⟨b,0,none⟩) a c
      |6=>.int .i64 u
      |7=>.int .i64 u
      |_=>undef)
     (fun D s LW=>Sn w LW fun i=>match i with
      |0=>some (ah w.heap.size 26 #[.int .i64 ts,.slice G gn gc,.slice G' n' c'])
      |1=>some (ax (.slice (some ⟨b,0,none⟩) z c) q)
      |_=>none)
     () ?_ ?_ ?_
    ·intro D hD;refine((Sn.dN cu.out).quiet ((ai _ _).drew)).congr fun i=>?_
     match i with
     |0 | 1=>rfl
     |q+2=>rfl
    ·refine Cs (fun D s LW hR _ hd _ _ hs K hK=>?_) ?_
     ·have e2:=hs.o 2 (.pointer (some ⟨w.heap.size,0,none⟩));clear hs;have qk:=(hR.blk 0 rfl).cell;go_simp;exact hK s LW sv hR
     refine Cs (fun D s LW hR _ hd _ _ hs K hK=>?_) ?_
     ·have e2:=hs.o 2 (.pointer (some ⟨w.heap.size,0,none⟩));clear hs;go_simp;exact hK s LW sv hR
     refine Cs (fun D s LW hR _ hd _ _ hs K hK=>?_) ?_
     ·have e27:=hs.v 1 27 hd;clear hs;have qk:=(hR.blk 0 rfl).cell;go_simp;exact hK s LW sv hR
     refine Cs (fun D s LW hR _ hd _ _ hs K hK=>?_) ?_
     ·have e6:=hs.o 6 (.slice (some ⟨b,0,none⟩) z c);clear hs;go_simp;exact hK s LW sv hR
     refine Cs (fun D s LW hR _ hd _ _ hs K hK=>?_) ?_
     ·have e7:=hs.o 7 (.int .i64 (a:Int));clear hs;go_simp;exact hK s LW sv hR
     refine Cs (fun D s LW hR _ hd _ _ hs K hK=>?_) ?_
     ·have e29:=hs.v 3 29 hd;have e30:=hs.v 4 30 hd;clear hs;go_simp;exact hK s LW sv hR
     refine Cs (fun D s LW hR _ hd _ _ hs K hK=>?_) ?_
     ·have e26:=hs.v 0 26 hd;have e28:=hs.v 2 28 hd;have e31:=hs.v 5 31 hd;have g26:=aX e26;have g28:=aX e28;have g31:=aX e31;clear hs;go_simp;refine(jy _ t ts (some ⟨b,0,none⟩) a c (q.take a) _ (HT.out.up hR.below) (lW (hR.oZ 1 rfl) a (by omega))).mono ?_;rw[HU.out];rintro e2 w2 ⟨rfl,hb2⟩;exact hK s w2 sv (hR.quiet hb2)
     refine Cs (fun D s LW hR _ hd _ _ hs K hK=>?_) ?_
     ·have e32:=hs.v 6 32 hd;clear hs;go_simp;exact hK s LW sv hR
     exact aj.nil
    ·intro D s LW hR hD;simp only[eH,Act.put,aO,aU,aW];have fH:=af (hR.eG [0,1] (L:=[ah w.heap.size 26 #[.int .i64 ts,.slice G gn gc,.slice G' n' c'],ax (.slice (some ⟨b,0,none⟩) z c) q]) (by decide) rfl);clear hR hD cu;go_wp2
     go_loopw [9,6] (fun mv x6 wr=>∃m:Nat,mv= .int .i64 m∧x6= .slice (some ⟨b,0,none⟩) z c∧a≤m∧m≤z∧Bx (∀j,m<j→j≤q.length→prun t q j≠prun t q a)∧St w wr [ah w.heap.size 26 #[.int .i64 ts,.slice G gn gc,.slice G' n' c'],ax (.slice (some ⟨b,0,none⟩) z c) q]) (fun mv _ _=>(intOf mv).toNat)
     case atStart=>exact⟨z,rfl,rfl,by omega,by omega,Bx.mk (fun j h1 h2=>by have:=BR.out;omega),fH.out⟩
     case round=>
      clear fH;obtain⟨m,rfl,rfl,ham,hmz,HNO,S⟩:=hrel;have dX:=af S;clear S
      by_cases hlt:a<m
      ·have ZY:(a:Int)<(m:Int):=by omega
       have afz:(m:Int)≤(z:Int):=by omega
       have hmc:m≤c:=by omega
       have afA:(m:Int)≤(c:Int):=by omega
       obtain⟨u2,hu2⟩:∃u,aC t ts (q.take m)=u:=⟨_,rfl⟩;have HU2:=Bx.mk hu2;have aaz:Bx (prun t q m=u2):=Bx.mk (by unfold prun;rw[Vj.out,HU2.out]);clear hu2
       go_upto_region 11 with(fail)
       refine kG (σ:=Unit)
        (fun s i=>match i with
         |0=>.agg #[.int .i64 ts,.slice G gn gc,.slice G' n' c']
         |1=>.pointer (some ⟨w.heap.size,0,none⟩)
         |2=>.int .i64 ts
         |3=>.slice (some ⟨b,0,none⟩) z c
         |4=>.int .i64 (m:Int)
         |5=>.slice (some ⟨b,0,none⟩) m c
         |6=>.int .i64 u2
         |7=>.int .i64 u
         |8=>.bool (u2 == u)
         |_=>undef)
        (fun D s Jl=>Sn w Jl fun i=>match i with
         |0=>some (ah w.heap.size 26 #[.int .i64 ts,.slice G gn gc,.slice G' n' c'])
         |1=>some (ax (.slice (some ⟨b,0,none⟩) z c) q)
         |_=>none)
        () ?_ ?_ ?_
       ·intro D hD;refine((Sn.dN dX.out).quiet ((ai _ _).drew)).congr fun i=>?_
        match i with
        |0 | 1=>rfl
        |q+2=>rfl
       ·refine Cs (fun D s Jl hR _ hd _ _ hs K hK=>?_) ?_
        ·have e2:=hs.o 2 (.pointer (some ⟨w.heap.size,0,none⟩));clear hs;have qk:=(hR.blk 0 rfl).cell;go_simp;exact hK s Jl sv hR
        refine Cs (fun D s Jl hR _ hd _ _ hs K hK=>?_) ?_
        ·have e2:=hs.o 2 (.pointer (some ⟨w.heap.size,0,none⟩));clear hs;go_simp;exact hK s Jl sv hR
        refine Cs (fun D s Jl hR _ hd _ _ hs K hK=>?_) ?_
        ·have e41:=hs.v 1 41 hd;clear hs;have qk:=(hR.blk 0 rfl).cell;go_simp;exact hK s Jl sv hR
        refine Cs (fun D s Jl hR _ hd _ _ hs K hK=>?_) ?_
        ·have e6:=hs.o 6 (.slice (some ⟨b,0,none⟩) z c);clear hs;go_simp;exact hK s Jl sv hR
        refine Cs (fun D s Jl hR _ hd _ _ hs K hK=>?_) ?_
        ·have e9:=hs.o 9 (.int .i64 (m:Int));clear hs;go_simp;exact hK s Jl sv hR
        refine Cs (fun D s Jl hR _ hd _ _ hs K hK=>?_) ?_
        ·have e43:=hs.v 3 43 hd;have e44:=hs.v 4 44 hd;clear hs;go_simp;exact hK s Jl sv hR
        refine Cs (fun D s Jl hR _ hd _ _ hs K hK=>?_) ?_
        ·have e40:=hs.v 0 40 hd;have e42:=hs.v 2 42 hd;have e45:=hs.v 5 45 hd;have g40:=aX e40;have g42:=aX e42;have g45:=aX e45;clear hs;go_simp;refine(jy _ t ts (some ⟨b,0,none⟩) m c (q.take m) _ (HT.out.up hR.below) (lW (hR.oZ 1 rfl) m (by omega))).mono ?_;rw[HU2.out];rintro e2 w2 ⟨rfl,hb2⟩;exact hK s w2 sv (hR.quiet hb2)
        refine Cs (fun D s Jl hR _ hd _ _ hs K hK=>?_) ?_
        ·have e8:=hs.o 8 (.int .i64 u);clear hs;go_simp;exact hK s Jl sv hR
        refine Cs (fun D s Jl hR _ hd _ _ hs K hK=>?_) ?_
        ·have e46:=hs.v 6 46 hd;have e47:=hs.v 7 47 hd;clear hs;go_simp;exact hK s Jl sv hR
        exact aj.nil
       ·intro D s Jl hR hD;simp only[eH,Act.put,aO,aU,aW];have jB:=af (hR.eG [0,1] (L:=[ah w.heap.size 26 #[.int .i64 ts,.slice G gn gc,.slice G' n' c'],ax (.slice (some ⟨b,0,none⟩) z c) q]) (by decide) rfl);clear hR hD dX
        by_cases he:u2=u
        ·have hbe:(u2 == u)=true:=by simpa using he
         have HE:Bx (prun t q m=prun t q a):=Bx.mk (by rw[aaz.out,HUP.out,he]);have HC:Bx (cutAt t q a=q.take a++q.drop m):=Bx.mk (by unfold cutAt;rw[zO (by omega) (by rw[BR.out];exact hmz) HE.out HNO.out])
         have OO:Bx (jh t p (a+1)=q.take a++q.drop m):=Bx.mk (by
          show cutAt t (jh t p a) a=_
          rw[zB.out];exact HC.out)
         have aat:Bx (0≤aC t t.start (q.take a++q.drop m)):=Bx.mk (by rw[←OO.out,xB HR.out];exact HR.out);have um:Bx ((q.take a).length=a):=Bx.mk (by rw[List.length_take,BR.out];omega);have HDR:Bx ((q.drop m).length=z-m):=Bx.mk (by rw[List.length_drop,BR.out]);have Xv:Bx ((q.take a++q.drop m).length=a+(z-m)):=Bx.mk (by rw[bQ,um.out,HDR.out])
         obtain⟨AL,CL,hAL⟩:∃(x:Option Addr) (y:Nat),(c=m→x=some ⟨b,0,none⟩∧y=0)∧(c≠m→x=some ⟨b,m,none⟩∧y=c-m):=by
          by_cases h:c=m
          ·exact⟨_,_,fun _=>⟨rfl,rfl⟩,fun k=>absurd h k⟩
          ·exact⟨_,_,fun k=>absurd k h,fun _=>⟨rfl,rfl⟩⟩
         have wB:=Bx.mk hAL;clear hAL he HC HE HNO HUP aaz HU HU2
         go_upto_region 12 with(fail)
         refine kG (σ:=Nat×(Nat×Nat)×(Nat×Nat))
          (fun s i=>match i with
           |0=>.slice (some ⟨s.1,0,none⟩) 0 0
           |1=>.slice (some ⟨b,0,none⟩) z c
           |2=>.int .i64 (a:Int)
           |3=>.slice (some ⟨b,0,none⟩) a c
           |4=>.slice (some ⟨s.2.1.1,0,none⟩) (0+a) s.2.1.2
           |5=>.slice (some ⟨b,0,none⟩) z c
           |6=>.int .i64 (m:Int)
           |7=>.slice AL (z-m) CL
           |8=>.slice (some ⟨s.2.2.1,0,none⟩) (a+(z-m)) s.2.2.2
           |9=>.slice (some ⟨s.2.2.1,0,none⟩) (a+(z-m)) s.2.2.2
           |_=>undef)
          (fun D s wx=>Sn w wx fun i=>match i with
           |0=>some (ah w.heap.size 26 #[.int .i64 ts,.slice G gn gc,.slice G' n' c'])
           |1=>some (ax (.slice (some ⟨b,0,none⟩) z c) q)
           |2=>if D 8=true then some (ax (.slice (some ⟨s.2.2.1,0,none⟩) (a+(z-m)) s.2.2.2) (q.take a++q.drop m)) else if D 4=true then some (ax (.slice (some ⟨s.2.1.1,0,none⟩) (0+a) s.2.1.2) ([]++q.take a)) else if D 0=true then some (ax (.slice (some ⟨s.1,0,none⟩) 0 0) []) else none
           |_=>none)
          (0,(0,0),(0,0)) ?_ ?_ ?_
         ·intro D hD;refine((Sn.dN jB.out).quiet ((ai _ _).drew)).congr fun i=>?_
          match i with
          |0 | 1=>rfl
          |2=>simp only[hD 8 (by decide),hD 4 (by decide),hD 0 (by decide)];rfl
          |q+3=>rfl
         ·refine Cs (fun D s wx hR (hDi:D 0=false) hd hsh _ hs K hK=>?_) ?_
          ·clear hs;have n4:D 4=false:=hsh.no hDi 4 rfl ⟨0,.data⟩ (by simp) rfl rfl;have n8:D 8=false:=hsh.no n4 8 rfl ⟨4,.data⟩ (by simp) rfl rfl;have n9:D 9=false:=hsh.no n8 9 rfl ⟨8,.data⟩ (by simp) rfl rfl;go_simp
           refine hK (wx.heap.size,s.2.1,s.2.2) _
            (fun j hj=>by
             match j,hj with
             |0,hj=>rw[hDi] at hj;cases hj
             |1,hj | 2,hj | 3,hj=>rfl
             |4,hj=>rw[n4] at hj;cases hj
             |5,hj | 6,hj | 7,hj=>rfl
             |8,hj=>rw[n8] at hj;cases hj
             |9,hj=>rw[n9] at hj;cases hj
             |_+10,hj=>rfl)
            ((hR.add 2 (by simp only[n8,n4,hDi];rfl) (St.yA wx wx.heap.size rfl)).congr
             (fun i=>by
              match i with
              |0 | 1=>rfl
              |2=>(show(if D 8=true then _ else if D 4=true then _ else _)=_;rw[n8,n4];rfl)
              |q+3=>exact(if_neg (show¬(q+3=2) by omega)).symm))
          refine Cs (fun D s wx hR hDi hd hsh _ hs K hK=>?_) ?_
          ·have m9:D 9=false:=hsh.no hDi 9 rfl ⟨1,.phase⟩ (by simp) rfl rfl;have e6:=hs.before 9 6 (u:=.slice (some ⟨b,0,none⟩) z c) rfl m9 (by kernel_rfl) rfl;clear hs;go_simp;exact hK s wx sv hR
          refine Cs (fun D s wx hR _ hd _ _ hs K hK=>?_) ?_
          ·have e7:=hs.o 7 (.int .i64 (a:Int));clear hs;go_simp;exact hK s wx sv hR
          refine Cs (fun D s wx hR _ hd _ _ hs K hK=>?_) ?_
          ·have e50:=hs.v 1 50 hd;have e51:=hs.v 2 51 hd;clear hs;go_simp;exact hK s wx sv hR
          refine Cs (fun D s wx hR (hDi:D 4=false) hd hsh _ hs K hK=>?_) ?_
          ·have e49:=hs.v 0 49 hd;have e52:=hs.v 3 52 hd;have g49:=aX e49;have g52:=aX e52;clear hs;have n8:D 8=false:=hsh.no hDi 8 rfl ⟨4,.data⟩ (by simp) rfl rfl;have n9:D 9=false:=hsh.no n8 9 rfl ⟨8,.data⟩ (by simp) rfl rfl;have d0:D 0=true:=hd ⟨0,.data⟩ (by simp) rfl;have ho:=hR.qA 2 (v:=.slice (some ⟨s.1,0,none⟩) 0 0) (xs:=[]) (by simp only[n8,hDi,d0];rfl);have hr:=(lW (hR.oZ 1 (A:=some ⟨b,0,none⟩) (n:=z) (c:=c) (xs:=q) rfl) a (by omega)).row;simp only[List.length_nil] at ho;refine ni iR (.tmp 49) (.tmp 52) rfl 0 _ 0 _ e49 ho _ (some ⟨b,0,none⟩) a c _ e52 hr (gG _) (by omega) (by omega) (by omega) ?_;intro v' w' hown hg hat;obtain⟨b4,c4,hv⟩:=Ac hown hat;subst hv
           refine hK (s.1,(b4,c4),s.2.2) w'
            (fun j hj=>by
             match j,hj with
             |0,hj | 1,hj | 2,hj | 3,hj=>rfl
             |4,hj=>rw[hDi] at hj;cases hj
             |5,hj | 6,hj | 7,hj=>rfl
             |8,hj=>rw[n8] at hj;cases hj
             |9,hj=>rw[n9] at hj;cases hj
             |_+10,hj=>rfl)
            ((hR.G8 2 (v:=.slice (some ⟨s.1,0,none⟩) 0 0) (xs:=[]) (ys:=q.take a) (by simp only[n8,hDi,d0];rfl) (by rw[um.out];rfl) hown (fun y hy=>(hR.oZ 1 (A:=some ⟨b,0,none⟩) (n:=z) (c:=c) (xs:=q) rfl).wf y (List.mem_of_mem_take hy)) hg hat).congr
             (fun i=>by
              match i with
              |0 | 1=>rfl
              |2=>(show(if D 8=true then _ else _)=_;rw[n8];rfl)
              |q+3=>exact(if_neg (show¬(q+3=2) by omega)).symm))
          refine Cs (fun D s wx hR hDi hd hsh _ hs K hK=>?_) ?_
          ·have m9:D 9=false:=hsh.no hDi 9 rfl ⟨5,.phase⟩ (by simp) rfl rfl;have e6:=hs.before 9 6 (u:=.slice (some ⟨b,0,none⟩) z c) rfl m9 (by kernel_rfl) rfl;clear hs;go_simp;exact hK s wx sv hR
          refine Cs (fun D s wx hR _ hd _ _ hs K hK=>?_) ?_
          ·have e9:=hs.o 9 (.int .i64 (m:Int));clear hs;go_simp;exact hK s wx sv hR
          refine Cs (fun D s wx hR _ hd _ _ hs K hK=>?_) ?_
          ·have e54:=hs.v 5 54 hd;have e55:=hs.v 6 55 hd;clear hs
           by_cases hlc:(m:Int)=(c:Nat)
           ·have Ef:c=m:=by omega
            have hlq:(c:Int)≤(z:Int):=by omega
            obtain⟨rfl,rfl⟩:=wB.out.1 Ef;go_simp;exact hK s wx sv hR
           ·have Ef:c≠m:=by omega
            obtain⟨rfl,rfl⟩:=wB.out.2 Ef;go_simp;exact hK s wx sv hR
          refine Cs (fun D s wx hR (hDi:D 8=false) hd hsh _ hs K hK=>?_) ?_
          ·have e53:=hs.v 4 53 hd;have e56:=hs.v 7 56 hd;have g53:=aX e53;have g56:=aX e56;clear hs;have n9:D 9=false:=hsh.no hDi 9 rfl ⟨8,.data⟩ (by simp) rfl rfl;have d4:D 4=true:=hd ⟨4,.data⟩ (by simp) rfl;have ho:=hR.qA 2 (v:=.slice (some ⟨s.2.1.1,0,none⟩) (0+a) s.2.1.2) (xs:=q.take a) (by simp only[hDi,d4];rfl);rw[um.out] at ho;have hr:=hR.OM 1 (g:=b) (n:=z) (c:=c) (xs:=q) (l:=m) (AL:=AL) rfl (by omega) wB.out;refine ni iR (.tmp 53) (.tmp 56) rfl 0 _ a _ e53 ho _ AL (z-m) CL _ e56 hr (gG _) (by omega) (by omega) (by omega) ?_;intro v' w' hown hg hat;obtain⟨b8,c8,hv⟩:=Ac hown hat;subst hv
           refine hK (s.1,s.2.1,(b8,c8)) w'
            (fun j hj=>by
             match j,hj with
             |0,hj | 1,hj | 2,hj | 3,hj | 4,hj | 5,hj | 6,hj | 7,hj=>rfl
             |8,hj=>rw[hDi] at hj;cases hj
             |9,hj=>rw[n9] at hj;cases hj
             |_+10,hj=>rfl)
            ((hR.G8 2 (v:=.slice (some ⟨s.2.1.1,0,none⟩) (0+a) s.2.1.2) (xs:=q.take a) (ys:=q.drop m) (by simp only[hDi,d4];rfl) (by rw[um.out,HDR.out]) hown (fun y hy=>(hR.oZ 1 (A:=some ⟨b,0,none⟩) (n:=z) (c:=c) (xs:=q) rfl).wf y (List.mem_of_mem_drop hy)) hg hat).congr
             (fun i=>by
              match i with
              |0 | 1 | 2=>rfl
              |q+3=>exact(if_neg (show¬(q+3=2) by omega)).symm))
          refine Cs (fun D s wx hR _ hd _ _ hs K hK=>?_) ?_
          ·have e57:=hs.v 8 57 hd;clear hs;go_simp;exact hK s wx sv hR
          exact aj.nil
         ·intro D s wx hR hD;simp only[eH,Act.put,aO,aU,aW];have uo:=hR.eG [0,2] (L:=[ah w.heap.size 26 #[.int .i64 ts,.slice G gn gc,.slice G' n' c'],ax (.slice (some ⟨s.2.2.1,0,none⟩) (a+(z-m)) s.2.2.2) (q.take a++q.drop m)]) (by decide) (by simp only[List.map,hD 8 (by decide)];rfl);have je:=af uo;clear hR hD jB uo;go_wp2
          go_roundw
          case rel=>exact⟨a+1,a+(z-m),_,_,q.take a++q.drop m,by go_num,rfl,by omega,by omega,Xv,OO,aat,je.out⟩
          case measure=>simp only[lenV,intOf];omega
        ·have hbe:(u2 == u)=false:=by simpa using he
         have ad8:Bx (∀j,m-1<j→j≤q.length→prun t q j≠prun t q a):=Bx.mk fun j h1 h2=>by
          by_cases hj:j=m
          ·subst hj;rw[aaz.out,HUP.out];exact he
          ·exact HNO.out j (by omega) h2
         clear he;go_wp2
         go_roundw
         case rel=>exact⟨m-1,by go_num,rfl,by omega,by omega,ad8,jB.out⟩
         case measure=>simp[intOf];omega
      ·obtain rfl:m=a:=by omega
       have OO:Bx (jh t p (m+1)=q):=Bx.mk (by
        show cutAt t (jh t p m) m=_
        rw[zB.out];exact xE t q m HNO.out)
       go_wp2
       go_roundw
       case rel=>exact⟨m+1,z,_,_,q,by go_num,rfl,by omega,by omega,BR,OO,HRQ,dX.out⟩
       case measure=>simp only[lenV,intOf];omega
   ·have HE:Bx ((fK t p).getD []=q):=Bx.mk (by
     rw[HY.out,Option.getD_some]
     have:=LV zB.out (by rw[BR.out];omega) (41-a)
     rwa[show a+(41-a)=41 by omega] at this)
    go_wp2;refine bodyPost_ret (v:=.tuple #[.slice (some ⟨b,0,none⟩) z c,.bool true]) (by simp[results,Tryz.results123,go_sem]) rfl ⟨.slice (some ⟨b,0,none⟩) z c,by rw[HY.out];rfl,?_⟩;rw[HE.out];exact cu.out.pick [1] (by decide) rfl rfl
theorem RV (A:Option Addr) (n c:Nat) (xs:List Int) (x:Int) (w:World) (h:jd .i64 w w.heap.size A n c xs):
  Calls Tryz.prog 188 #[.slice A n c,.int .i64 x] w fun e w'=>(∃r:Int,e= .returned (.int .i64 r)∧(0≤r↔x∈xs))∧w=w':=by
 have hc:=h.cap;have hm:=h.dw
 unfold maxLen at hm
 have HL:=af h.len;go_enter Tryz.func188,Tryz.ntmps188;go_wp2
 go_loop [8] (fun i=>∃k:Nat,k≤n∧i= .int .i64 k∧Hid (x∉xs.take k)) (fun i=>n-(intOf i).toNat)
 case atStart=>exact⟨0,by omega,rfl,af (by simp)⟩
 case round=>
  obtain⟨k,hk,rfl,hno⟩:=hrel
  by_cases hlt:k<n
  ·obtain⟨b,off,y,rfl,hb,hx,hw,hc⟩:=h.get hlt;have HX:=af hx;clear hx
   by_cases he:x=y
   ·have HM:=af (bT HX.out);subst he;go_wp2;go_ret;exact⟨⟨_,rfl,fun _=>HM.out,fun _=>by omega⟩,rfl⟩
   ·have hne:(x == y)=false:=by simpa using he
    have HN:Hid (x∉xs.take (k+1)):=af (by
     rw[take_succ' HX.out,List.mem_append];rintro(h | h)
     ·exact hno.out h
     ·exact he (List.mem_singleton.1 h))
    clear he;go_wp2
    go_round
    case rel=>exact⟨k+1,by omega,by go_num,HN⟩
    case measure=>simp[intOf];omega
  ·have hkn:k=n:=by omega
   have HF:Hid (x∉xs):=af (by have:=hno.out;rw[hkn,←HL.out,List.take_length] at this;exact this);clear hkn;go_wp2;go_ret;exact⟨⟨_,rfl,fun h=>by omega,fun h=>absurd h HF.out⟩,rfl⟩
theorem IU (A:Option Addr) (n c:Nat) (xs:List Int) (x:Int) (w:World) (h:jd .i64 w w.heap.size A n c xs):
  Calls Tryz.prog 162 #[.slice A n c,.int .i64 x] w fun e w'=>e= .returned (.bool (decide (x∈xs)))∧w=w':=by
 go_enter Tryz.func162,Tryz.ntmps162
 go_wp2_with fail
 refine(RV A n c xs x _ h).mono ?_;rintro e w' ⟨⟨r,rfl,hr⟩,rfl⟩;have HR:Hid (decide (0≤r)=decide (x∈xs)):=af (by rw[decide_eq_decide];exact hr);clear hr;go_wp2;go_ret;exact⟨aY HR.out,rfl⟩
theorem Xr {P:Program} {t tn:TypeId} {w w2:World} {ops:Array Oper} {rest:List Oper} {o:Oper} {a:Act} {Q:Exit→Act→World→Prop} (hgd:o.guard=none) (s x:Operand)
  (ho:o.op= .call { callee:=.builtin .append,args:=#[s,x],argTypes:=#[t,tn] }) (va vb r:Value) (hs:a.eval s=va) (hx:a.eval x=vb) (hr:∀ty,(Builtin.append_ #[t,tn] ty #[va,vb]).run P w= .ok r w2)
  (h:wpList P ops Q rest (a.put o.dst r) w2):wpList P ops Q (o::rest) a w:=by
 refine wpList_plain hgd fun K hK=>?_
 unfold Oper.wp execOp
 simp only[ho,resolve,invoke,builtin,Sem.run_bind,Sem.run_pure,Result.andThen_ok,List.map_toArray,List.map_cons,List.map_nil,hs,hx,hr];exact hK _ _ h
theorem OL (n:Nat) (w:World) (hn:n≤1000000):
  Calls Tryz.prog 189 #[.slice none 0 0,.int .i64 n] w (Gives w id fun v=>[ax v []]):=by
 obtain⟨i0,hi,hz0,hz1,hz2⟩:=iR.hi
 rcases Nat.eq_zero_or_pos n with h0 | h0
 ·subst h0;go_enter Tryz.func189,Tryz.ntmps189;go_wp2;go_ret;exact⟨_,rfl,iw _ _ (ai _ _)⟩
 ·have hni:(0:Int)<(n:Int):=by omega
  have hap:∀ty w,(Builtin.append_ #[23,3] ty #[.slice none 0 0,.int .i64 n]).run Tryz.prog w= .ok (.slice (some ⟨w.heap.size,0,none⟩) n (grownCap w n 0 3)) (w.drew.alloc (.cells (Builtin.zeroCells (Value.int .i64 0).cells n++Builtin.zeroCells (Value.int .i64 0).cells (grownCap w n 0 3-n)) 3)):=
   fun ty w=>Lib.run_append_nil_zeros w _ _ ty _ i0 _ .i64 .i64 Tryz.underlying23 Tryz.underlying3 hi hz0 n h0 (by rw[hz1];omega) (by omega) (by rw[hz2];omega)
  have hge:=grownCap_ge w n 0 3;have hle:=grownCap_le_maxLen w n 0 3 (by unfold maxLen;omega);obtain⟨C,hC⟩:∃C,grownCap w n 0 3=C:=⟨_,rfl⟩;have HA:=fun ty=>hap ty w
  rw[hC] at HA hge hle;have hle':C≤9223372036854775807:=by unfold maxLen at hle;omega
  have HS:Hid (St w (w.drew.alloc (.cells (Builtin.zeroCells (Value.int .i64 0).cells n++Builtin.zeroCells (Value.int .i64 0).cells (C-n)) 3)) [ax (.slice (some ⟨w.heap.size,0,none⟩) 0 C) []]):=af (by
   have h1:=(St.new1 w.drew (Builtin.zeroCells (Value.int .i64 0).cells n++Builtin.zeroCells (Value.int .i64 0).cells (C-n)) 3);have h2:St w _ _:=(St.of_below ((ai _ _).drew)).call h1;refine h2.see fun F h _=>?_
   obtain⟨h3,rfl⟩:=h;refine⟨⟨by simp[ints],.inr ⟨_,C,_,rfl,Nat.zero_le _,h3,by simp,by unfold maxLen;omega,?_,by simp[ints]⟩⟩,by simp,rfl⟩;simp only[Array.size_append,size_zeroCells,Value.cells,List.size_toArray,bM,List.length_nil]
   omega)
  clear hap hC;go_enter Tryz.func189,Tryz.ntmps189
  go_wp2_with (at_builtin;refine Xr rfl (.tmp 20) (.tmp 21) rfl (.slice none 0 0) (.int .i64 n) _ rfl rfl HA ?_)
  go_wp2;go_ret;exact⟨_,rfl,HS.out⟩
theorem DF (g:Nat) (A1:Option Addr) (n1 c1:Nat) (xs:List Int) (A2:Option Addr) (n2 c2:Nat) (ys:List Int) (w:World) (hb:fU w g 23 #[.slice A1 n1 c1,.slice A2 n2 c2])
  (h1:jd .i64 w w.heap.size A1 n1 c1 xs) (h2:jd .i64 w w.heap.size A2 n2 c2 ys) (hn:n1+n2≤1000000):
  Calls Tryz.prog 163 #[.slice (some ⟨g,0,none⟩) 2 2] w (Gives w id fun v=>[ax v (xs++ys)]):=by
 have HB:=af hb;have H1:=af h1;have H2:=af h2;have HL1:=af h1.len;have HL2:=af h2.len;have HW1:=af h1.wf;have HW2:=af h2.wf;have hcap1:=h1.cap;have hcm1:=h1.dw;have hcap2:=h2.cap;have hcm2:=h2.dw
 unfold maxLen at hcm1 hcm2
 have q0:w.cell? ⟨g,0,none⟩=some (.slice A1 n1 c1):=hb.cell 0;have q1:w.cell? ⟨g,1,none⟩=some (.slice A2 n2 c2):=hb.cell 1;clear hb h1 h2;go_enter Tryz.func163,Tryz.ntmps163;go_wp2
 go_loop [11,3] (fun i z=>(i= .int .i64 0∧z= .int .i64 0)∨(i= .int .i64 1∧z= .int .i64 (n1:Int))∨(i= .int .i64 2∧z= .int .i64 ((n1:Int)+n2))) (fun i _=>2-(intOf i).toNat)
 case atStart=>exact .inl ⟨rfl,rfl⟩
 case round=>
  rcases hrel with⟨rfl,rfl⟩ | ⟨rfl,rfl⟩ | ⟨rfl,rfl⟩
  ·go_wp2
   go_round
   case rel=>exact .inr (.inl ⟨by go_num,by go_num⟩)
   case measure=>simp[intOf]
  ·go_wp2
   go_round
   case rel=>exact .inr (.inr ⟨by go_num,by go_num⟩)
   case measure=>simp[intOf]
  ·clear q0 q1
   go_wp2_with fail
   have hG:=OL (n1+n2) w hn;rw[Int.natCast_add] at hG;refine hG.mono ?_;rintro e w2 ⟨v2,rfl,s2⟩;have HS2:=af s2;clear s2 hG;go_wp2
   go_loopw [27,6] (fun i x6 wr=>∃(y6:Value) (zs:List Int),y6=x6∧((i= .int .i64 0∧Bx (zs=[]))∨(i= .int .i64 1∧Bx (zs=xs))∨(i= .int .i64 2∧Bx (zs=xs++ys)))∧St w wr [ax y6 zs]) (fun i _ _=>2-(intOf i).toNat)
   case atStart=>exact⟨_,[],rfl,.inl ⟨rfl,Bx.mk rfl⟩,HS2.out⟩
   case round=>
    clear HS2;obtain⟨y6,zs,rfl,hz,S⟩:=hrel;have HS:=af S;clear S;have p0:wr.cell? ⟨g,0,none⟩=some (.slice A1 n1 c1):=(HB.out.below HS.out.below HB.out.lt).cell 0;have p1:wr.cell? ⟨g,1,none⟩=some (.slice A2 n2 c2):=(HB.out.below HS.out.below HB.out.lt).cell 1;have HR1:=af (H1.out.up HS.out.below).row;have HR2:=af (H2.out.up HS.out.below).row;have HO:=af (HS.out.qA 0 rfl)
    rcases hz with⟨rfl,HZ⟩ | ⟨rfl,HZ⟩ | ⟨rfl,HZ⟩
    ·have hzl:zs.length=0:=by rw[HZ.out];rfl
     have Uc:=af hzl;clear hzl
     go_wp2_with (at_builtin;refine cZ iR rfl _ _ rfl 0 y6 zs.length (ints zs) rfl HO.out _ A1 n1 c1 (ints xs) rfl HR1.out (gG _) (by rw[Uc.out];omega) (by rw[Uc.out];omega) (Nat.zero_le _) ?_;intro v3 w3 hown3 hg3 mJ)
     have cu:=af (HS.out.rY (ys:=xs) 0 rfl (by rw[HL1.out]) hown3 HW1.out hg3 mJ);clear hown3 hg3 mJ;go_wp2
     go_roundw
     case rel=>exact⟨_,zs++xs,rfl,.inr (.inl ⟨by go_num,Bx.mk (by rw[HZ.out];rfl)⟩),cu.out⟩
     case measure=>simp[intOf]
    ·have Uc:Hid (zs.length=n1):=af (by rw[HZ.out];exact HL1.out)
     go_wp2_with (at_builtin;refine cZ iR rfl _ _ rfl 0 y6 zs.length (ints zs) rfl HO.out _ A2 n2 c2 (ints ys) rfl HR2.out (gG _) (by rw[Uc.out];omega) (by rw[Uc.out];omega) (Nat.zero_le _) ?_;intro v3 w3 hown3 hg3 mJ)
     have cu:=af (HS.out.rY (ys:=ys) 0 rfl (by rw[HL2.out]) hown3 HW2.out hg3 mJ);clear hown3 hg3 mJ;go_wp2
     go_roundw
     case rel=>exact⟨_,zs++ys,rfl,.inr (.inr ⟨by go_num,Bx.mk (by rw[HZ.out])⟩),cu.out⟩
     case measure=>simp[intOf]
    ·clear p0 p1;have HE:Bx (xs++ys=zs):=Bx.mk HZ.out.symm;go_wp2;go_ret;refine⟨_,rfl,?_⟩;rw[HE.out];exact HS.out
end Go.Proofs.YtkmcengmglgdeaaGreatDoor
