/- Joined texts: TDraw2, GraphP, Graph, Alive, Draws, Same. -/
import Derived.Test.YtkmcengmglgdeaaGreatDoorSDraw
import Derived.Test.YtkmcengmglgdeaaGreatDoorSPlanForW
import Derived.Test.YtkmcengmglgdeaaGreatDoorSNum
import Derived.RegionTactic
import Derived.ChangeAlike
import Derived.Test.YtkmcengmglgdeaaGreatDoorSPerm
import Derived.Maps.AppendAt
import Derived.Test.YtkmcengmglgdeaaGreatDoorSBack
import Derived.Test.YtkmcengmglgdeaaGreatDoorSDeed
import Derived.Test.YtkmcengmglgdeaaGreatDoorSPush

namespace Go.Proofs.YtkmcengmglgdeaaGreatDoor
set_option linter.unusedVariables false
set_option linter.unusedSimpArgs false
set_option maxRecDepth 100000
set_option maxHeartbeats 8000000
open Go.ChangeShapes Go.WideShapes Go.ChangeAt Go.RowKit
def up5 (i:Nat):Nat:=if i<5 then i else i+2
theorem Qx {i j:Nat} (h:up5 i=up5 j):i=j:=by unfold up5 at h;split at h<;>split at h<;>omega
def dn6 (i:Nat):Nat:=if i=0 then 0 else if i<5 then i+1 else if i=5 then 1 else i-1
theorem Xw {i j:Nat} (hi:i≠6) (hj:j≠6) (h:dn6 i=dn6 j):i=j:=by
 unfold dn6 at h
 repeat' split at h
 all_goals omega
def dn5 (i:Nat):Nat:=if i<5 then i else i-2
theorem Xx {i j:Nat} (h1:i≠5) (h2:i≠6) (h3:j≠5) (h4:j≠6) (h:dn5 i=dn5 j):i=j:=by unfold dn5 at h;split at h<;>split at h<;>omega
def uY (m:Int) (d:au):Prop:=d.need.length≤4∧(-m≤d.on∧d.on≤m)∧(-m≤d.off∧d.off≤m)∧(-m≤d.flip∧d.flip≤m)
abbrev Eh (d:au):Prop:=uY 200 d
theorem uY.mono {m m':Int} {d:au} (h:uY m d) (hm:m≤m'):uY m' d:=by
 obtain⟨h1,h2,h3,h4⟩:=h;exact⟨h1,by omega,by omega,by omega⟩
theorem Xy:Eh ⟨[],0,0,0⟩:=⟨by simp,by decide,by decide,by decide⟩
theorem Sj {d:au} (h:Eh d):(Lit.int .i64 d.on).wf=true∧(Lit.int .i64 d.off).wf=true∧(Lit.int .i64 d.flip).wf=true:=by
 obtain⟨-,h1,h2,h3⟩:=h;exact⟨bU (by omega),bU (by omega),bU (by omega)⟩
def Vm (t:aB):Prop:=t.goal.length≤6∧t.ay.length≤7∧(-1≤t.start∧t.start≤32)∧∀d∈t.ay,uY 600 d
theorem NU {w W:World} {L:List dh} {g hi:Nat} (S:St w W (fG w g hi::L)) (hh:hi≤200000000000) (n:Int):
  Calls Tryz.prog 100 #[.pointer (some ⟨g,0,none⟩),.int .i64 n] W fun e w'=>∃v t,e= .returned v∧Vm t∧St w w' (fG w g (hi+200)::lI v t::L):=by
 obtain⟨r,hr⟩:∃r,W.heap.size=r:=⟨_,rfl⟩;have HS:Hid (St w (W.alloc (.cells #[.int .i64 0,.slice none 0 0,.slice none 0 0] 26)) (fG w g hi::ah r 26 #[.int .i64 0,.slice none 0 0,.slice none 0 0]::L)):=af (by rw[←hr];exact S.alloc1 _ _);clear S;go_enter Tryz.func100,Tryz.ntmps100
 go_wp2_with fail
 refine(dQ HS.out (by omega) 32).mono ?_;rintro e w1 ⟨st,rfl,⟨a1,a2,-⟩,s1⟩;have a3:=a2 (by omega);have bf:=af s1;clear s1 a2 HS
 go_wp2_with fail
 refine(Ei bf.out (by omega)).mono ?_;rintro e w2 ⟨v2,xs,rfl,hxl,hxd,s2⟩;obtain⟨T,hT⟩:∃T,w2.heap.size=T:=⟨_,rfl⟩;obtain⟨A2,c2,hv2,-⟩:=s2.uj 1 rfl;subst hv2;obtain⟨gv,hgv⟩:∃gv,gv=Value.slice A2 xs.length c2:=⟨_,rfl⟩
 have HS2:Hid (St w (w2.alloc (.cells #[.int .i64 st,.slice A2 xs.length c2,.slice none 0 0] 26)) (fG w g (hi+10)::ax gv xs::ah T 26 #[.int .i64 st,gv,.slice none 0 0]::ah r 26 #[.int .i64 0,.slice none 0 0,.slice none 0 0]::L)):=af (by
  rw[←hT,hgv]
  exact(((s2.alloc1 #[.int .i64 st,.slice A2 xs.length c2,.slice none 0 0] 26).bring 2 rfl).bring 1 rfl).more (by omega))
 clear s2 bf
 go_wp2_with fail
 refine(dQ HS2.out (by omega) 2).mono ?_;rintro e w3 ⟨x3,rfl,⟨b1,b2,-⟩,s3⟩;have b3:=b2 (by omega);have cu:=af s3
 try rw[hr]
 try rw[hT]
 clear s3 b2 HS2 hr hT hgv
 go_upto_if 16 with(fail)
 go_cut [6] (fun s6 wx=>∃(gv:Value) (goal:List Int),goal.length≤6∧St w wx (fG w g (hi+15)::ax gv goal::ah T 26 #[.int .i64 st,gv,.slice none 0 0]::ah r 26 #[.int .i64 0,.slice none 0 0,.slice none 0 0]::L))
 case first=>
  by_cases h3:x3=0
  ·subst h3
   go_wp2_with fail
   refine(dQ cu.out (by omega) 5).mono ?_;rintro e w4 ⟨y1,rfl,⟨c1,c2,-⟩,s4⟩;have c3:=c2 (by omega);have fH:=af s4;clear s4 c2 cu
   go_wp2_with fail
   refine(dQ fH.out (by omega) 5).mono ?_;rintro e w5 ⟨y2,rfl,⟨d1,d2,-⟩,s5⟩;have d3:=d2 (by omega);have dX:=af s5;clear s5 d2 fH
   go_wp2_with fail
   refine(dQ dX.out (by omega) 5).mono ?_;rintro e w6 ⟨y3,rfl,⟨e1,e2,-⟩,s6⟩;have e3:=e2 (by omega);have s7:=s6.qL (St.lit w6 [y1,y2,8,y3,7,8] 6 rfl (by simp) (((sW.two c1 (by omega) d1 (by omega)).app (sW.two (x:=8) (y:=y3) (by omega) (by omega) e1 (by omega))).app (sW.two (x:=7) (y:=8) (by omega) (by omega) (by omega) (by omega))).wf);have q7:∀j,(w6.alloc (.cells #[.int .i64 y1,.int .i64 y2,.int .i64 8,.int .i64 y3,.int .i64 7,.int .i64 8] 3)).cell? ⟨T,j,none⟩=_:=s7.cells 3 rfl;have f7:∀j,(w6.alloc (.cells #[.int .i64 y1,.int .i64 y2,.int .i64 8,.int .i64 y3,.int .i64 7,.int .i64 8] 3)).frozen? ⟨T,j,none⟩=false:=s7.free 3 rfl;have je:=af (((s7.set 3 rfl 1 (.slice (some ⟨w6.heap.size,0,none⟩) 6 6)).rid 2 rfl).more (hi':=hi+15) (by omega));clear s6 s7 e2 dX;go_wp2
   go_meet
   case rel=>exact⟨_,[y1,y2,8,y3,7,8],by simp,je.out⟩
  ·have h3':(x3 == 0)=false:=by simpa using h3
   have fH:=af (cu.out.more (hi':=hi+15) (by omega));clear h3 cu;go_wp2
   go_meet
   case rel=>exact⟨gv,xs,by omega,fH.out⟩
 case rest=>
  obtain⟨gv,goal,hgl,SC⟩:=hcut;have fH:=af SC;clear SC cu b1 b3 hxl hxd
  go_wp2_with fail
  refine(dQ fH.out (by omega) 7).mono ?_;rintro e w5 ⟨x5,rfl,⟨c1,c2,-⟩,s5⟩;have c3:=c2 (by omega);obtain⟨j0,rfl⟩:=bC c1;have dX:Hid (St w w5 (fG w g (hi+30)::fD (.slice none 0 0) []::ax gv goal::ah T 26 #[.int .i64 st,gv,.slice none 0 0]::ah r 26 #[.int .i64 0,.slice none 0 0,.slice none 0 0]::L)):=af ((s5.qL (Dl w5 w5 (ai _ _))).more (by omega));clear s5 c2 fH;go_wp2
  go_loopw [6] (fun iv wr=>∃(j:Nat) (ds:List au) (dv:Value),ds.length+j≤6∧iv= .int .i64 j∧(∀d∈ds,Eh d)∧St w wr (fG w g (hi+30+20*ds.length)::fD dv ds::ax gv goal::ah T 26 #[.int .i64 st,gv,dv]::ah r 26 #[.int .i64 0,.slice none 0 0,.slice none 0 0]::L)) (fun iv _=>(intOf iv).toNat)
  case atStart=>exact⟨j0,[],_,by simp;omega,rfl,by simp,dX.out⟩
  case round=>
   clear dX c1 c3;obtain⟨j,ds,dv,hj,rfl,hsm,S⟩:=hrel;have HS:=af S;have WZ:=af hsm;clear S hsm
   by_cases hj0:0<j
   ·go_upto_region 7 with(fail)
    refine kG (σ:={d:au//Eh d}×Option Addr×Nat×Nat×Option Addr×Nat)
     (fun s i=>match i with
      |0=>.pointer (some ⟨T,2,none⟩)
      |1=>dv
      |2=>.pointer (some ⟨g,0,none⟩)
      |3=>.agg #[.slice s.2.1 (s.1.1.need).length s.2.2.1,.int .i64 s.1.1.on,.int .i64 s.1.1.off,.int .i64 s.1.1.flip]
      |4=>.slice (some ⟨s.2.2.2.1,0,none⟩) 1 1
      |5=>.slice s.2.2.2.2.1 (ds.length+1) s.2.2.2.2.2
      |6=>.pointer (some ⟨T,2,none⟩)
      |_=>undef)
     (fun D s wx=>Sn w wx fun i=>match i with
      |0=>some (fG w g (if D 3=true then hi+30+20*ds.length+20 else hi+30+20*ds.length))
      |1=>some (fD (if D 5=true then .slice s.2.2.2.2.1 (ds.length+1) s.2.2.2.2.2 else dv) (if D 5=true then ds++[s.1.1] else ds))
      |2=>some (ax gv goal)
      |3=>some (ah T 26 (if D 7=true then #[.int .i64 st,gv,.slice s.2.2.2.2.1 (ds.length+1) s.2.2.2.2.2] else #[.int .i64 st,gv,dv]))
      |4=>some (ah r 26 #[.int .i64 0,.slice none 0 0,.slice none 0 0])
      |5=>if D 3=true then(if D 5=true then none else some (ax (.slice s.2.1 (s.1.1.need).length s.2.2.1) (s.1.1.need))) else none
      |6=>if D 4=true then some (ah s.2.2.2.1 144 #[.slice s.2.1 (s.1.1.need).length s.2.2.1,.int .i64 s.1.1.on,.int .i64 s.1.1.off,.int .i64 s.1.1.flip]) else none
      |q+7=>L[q]?)
     (⟨⟨[],0,0,0⟩,Xy⟩,none,0,0,none,0) ?_ ?_ ?_
    ·intro D hD;refine((Sn.dN HS.out).quiet ((ai _ _).drew)).re dn5 (fun i=>?_) (fun i j hi hj h=>?_)
     ·match i with
      |0=>exact .inr (by simp only[hD 3 (by decide),hD 4 (by decide),hD 5 (by decide),hD 7 (by decide)];rfl)
      |1=>exact .inr (by simp only[hD 3 (by decide),hD 4 (by decide),hD 5 (by decide),hD 7 (by decide)];rfl)
      |2=>exact .inr (by simp only[hD 3 (by decide),hD 4 (by decide),hD 5 (by decide),hD 7 (by decide)];rfl)
      |3=>exact .inr (by simp only[hD 3 (by decide),hD 4 (by decide),hD 5 (by decide),hD 7 (by decide)];rfl)
      |4=>exact .inr (by simp only[hD 3 (by decide),hD 4 (by decide),hD 5 (by decide),hD 7 (by decide)];rfl)
      |5=>exact .inl (by simp only[hD 3 (by decide),hD 4 (by decide),hD 5 (by decide),hD 7 (by decide)];rfl)
      |6=>exact .inl (by simp only[hD 3 (by decide),hD 4 (by decide),hD 5 (by decide),hD 7 (by decide)];rfl)
      |q+7=>exact .inr rfl
     ·by_cases i5:i=5
      ·subst i5;exact absurd (by simp only[hD 3 (by decide),hD 4 (by decide),hD 5 (by decide),hD 7 (by decide)];rfl) hi
      by_cases i6:i=6
      ·subst i6;exact absurd (by simp only[hD 3 (by decide),hD 4 (by decide),hD 5 (by decide),hD 7 (by decide)];rfl) hi
      by_cases j5:j=5
      ·subst j5;exact absurd (by simp only[hD 3 (by decide),hD 4 (by decide),hD 5 (by decide),hD 7 (by decide)];rfl) hj
      by_cases j6:j=6
      ·subst j6;exact absurd (by simp only[hD 3 (by decide),hD 4 (by decide),hD 5 (by decide),hD 7 (by decide)];rfl) hj
      exact Xx i5 i6 j5 j6 h
    ·refine Cs (fun D s wx hR _ hd _ _ hs K hK=>?_) ?_
     ·have e5:=hs.o 5 (.pointer (some ⟨T,0,none⟩));clear hs;go_simp;exact hK s wx sv hR
     refine Cs (fun D s wx hR hDi hd hsh _ hs K hK=>?_) ?_
     ·have e31:=hs.v 0 31 hd;clear hs;have n7:D 7=false:=hsh.no hDi 7 rfl ⟨1,.phase⟩ (by simp) rfl rfl;have kb:fU wx (T) 26 #[.int .i64 st,gv,dv]:=hR.blk 3 (by simp only[n7];rfl);have qk:=kb.cell;go_simp;exact hK s wx sv hR
     refine Cs (fun D s wx hR _ hd _ _ hs K hK=>?_) ?_
     ·have e0:=hs.o 0 (.pointer (some ⟨g,0,none⟩));clear hs;go_simp;exact hK s wx sv hR
     refine Cs (fun D s wx hR (hDi:D 3=false) hd hsh _ hs K hK=>?_) ?_
     ·have e33:=hs.v 2 33 hd;have g33:=aX e33;clear hs;have n4:D 4=false:=hsh.no hDi 4 rfl ⟨3,.data⟩ (by simp) rfl rfl;have n5:D 5=false:=hsh.no n4 5 rfl ⟨4,.data⟩ (by simp) rfl rfl;have n7:D 7=false:=hsh.no n5 7 rfl ⟨5,.data⟩ (by simp) rfl rfl;go_simp
      have s1:St w wx (fG w g (hi+30+20*ds.length)::fD dv ds::ax gv goal::ah T 26 #[.int .i64 st,gv,dv]::ah r 26 #[.int .i64 0,.slice none 0 0,.slice none 0 0]::L):=(hR.re (M':=fun i=>(fG w g (hi+30+20*ds.length)::fD dv ds::ax gv goal::ah T 26 #[.int .i64 st,gv,dv]::ah r 26 #[.int .i64 0,.slice none 0 0,.slice none 0 0]::L)[i]?) up5 (fun i=>by
       refine .inr ?_
       match i with
       |0=>simp only[hDi];rfl
       |1=>simp only[n5];rfl
       |2=>rfl
       |3=>simp only[n7];rfl
       |4=>rfl
       |q+5=>rfl) (fun i j _ _ h=>Qx h)).all fun i=>rfl
      refine(OQ s1 (by omega) 0).mono ?_;rintro e2 w2 ⟨nv2,d2,rfl,hl2,hg2,ho2,hf2,hp2,s2⟩;obtain⟨A3,c3,hv,-⟩:=s2.uj 1 rfl;subst hv
      refine hK (⟨d2,hl2,by omega,by omega,by omega⟩,A3,c3,s.2.2.2) w2
       (fun j hj=>by
        match j,hj with
        |0,hj | 1,hj | 2,hj=>rfl
        |3,hj=>rw[hDi] at hj;cases hj
        |4,hj=>rw[n4] at hj;cases hj
        |5,hj=>rw[n5] at hj;cases hj
        |6,hj=>rfl
        |7,hj=>rw[n7] at hj;cases hj
        |_+8,hj=>rfl)
       ((Sn.dN s2).re dn6 (fun i=>by
        match i with
        |0=>exact .inr (by simp only[Dp];rfl)
        |1=>exact .inr (by simp only[upd_ne _ (show(5:Nat)≠3 by decide),n5];rfl)
        |2=>exact .inr rfl
        |3=>exact .inr (by simp only[upd_ne _ (show(7:Nat)≠3 by decide),n7];rfl)
        |4=>exact .inr rfl
        |5=>exact .inr (by simp only[Dp,upd_ne _ (show(5:Nat)≠3 by decide),n5];rfl)
        |6=>exact .inl (by simp only[upd_ne _ (show(4:Nat)≠3 by decide),n4];rfl)
        |q+7=>exact .inr rfl)
        (fun i j hi hj h=>by
         by_cases i6:i=6
         ·subst i6;exact absurd (by simp only[upd_ne _ (show(4:Nat)≠3 by decide),n4];rfl) hi
         by_cases j6:j=6
         ·subst j6;exact absurd (by simp only[upd_ne _ (show(4:Nat)≠3 by decide),n4];rfl) hj
         exact Xw i6 j6 h))
     refine Cs (fun D s wx hR (hDi:D 4=false) hd hsh _ hs K hK=>?_) ?_
     ·have e34:=hs.v 3 34 hd;have g34:=aX e34;clear hs;have n5:D 5=false:=hsh.no hDi 5 rfl ⟨4,.data⟩ (by simp) rfl rfl;go_simp
      refine hK (s.1,s.2.1,s.2.2.1,wx.heap.size,s.2.2.2.2) _
       (fun j hj=>by
        match j,hj with
        |0,hj | 1,hj | 2,hj | 3,hj=>rfl
        |4,hj=>rw[hDi] at hj;cases hj
        |5,hj | 6,hj | 7,hj=>rfl
        |_+8,hj=>rfl)
       ((hR.add 6 (if_neg (by rw[hDi];simp)) (St.new1 wx #[.slice s.2.1 (s.1.1.need).length s.2.2.1,.int .i64 s.1.1.on,.int .i64 s.1.1.off,.int .i64 s.1.1.flip] 144)).congr
        (fun i=>by
         match i with
         |0 | 1 | 2 | 3 | 4 | 5 | 6=>rfl
         |q+7=>exact(if_neg (show¬(q+7=6) by omega)).symm))
     refine Cs (fun D s wx hR (hDi:D 5=false) hd hsh _ hs K hK=>?_) ?_
     ·have e32:=hs.v 1 32 hd;have e35:=hs.v 4 35 hd;have g32:=aX e32;have g35:=aX e35;clear hs;have n7:D 7=false:=hsh.no hDi 7 rfl ⟨5,.data⟩ (by simp) rfl rfl;have d4:D 4=true:=hd ⟨4,.data⟩ (by simp) rfl;have d3:D 3=true:=hsh 4 _ rfl d4 ⟨3,.data⟩ (by simp) rfl;obtain⟨F,cells,Fs,ho,-⟩:=hR.ay 1 (v:=dv) (ds:=ds) (by simp only[hDi];rfl);have kb:fU wx s.2.2.2.1 144 #[.slice s.2.1 (s.1.1.need).length s.2.2.1,.int .i64 s.1.1.on,.int .i64 s.1.1.off,.int .i64 s.1.1.flip]:=hR.blk 6 (by simp only[d4];rfl);have hsm:=s.1.2;refine IC zJ (.tmp 32) (.tmp 35) rfl 0 dv _ cells e32 ho.row _ _ 1 1 [.slice s.2.1 (s.1.1.need).length s.2.2.1,.int .i64 s.1.1.on,.int .i64 s.1.1.off,.int .i64 s.1.1.flip] e35 (bJ.IB kb 4 1 rfl (by unfold maxLen;omega)) (by omega) (by simp[Value.oneCell']) (by omega) (by omega) (by omega) ?_;intro v' w' hown hg hat;obtain⟨A4,c4,hv⟩:=dR hown;subst hv
      exact hK (s.1,s.2.1,s.2.2.1,s.2.2.2.1,A4,c4) w'
       (fun j hj=>by
        match j,hj with
        |0,hj | 1,hj | 2,hj | 3,hj | 4,hj=>rfl
        |5,hj=>rw[hDi] at hj;cases hj
        |6,hj | 7,hj=>rfl
        |_+8,hj=>rfl)
       ((hR.push 1 5 (by decide) (v:=dv) (nv:=.slice s.2.1 (s.1.1.need).length s.2.2.1) (ds:=ds) (d:=s.1.1) (by simp only[hDi];rfl) (by simp only[d3,hDi];rfl) (by have:=s.1.2.1;omega) (Sj s.1.2) (by omega) rfl ho.row hown hg hat).congr
        (fun i=>by
         match i with
         |0 | 1 | 2=>rfl
         |3=>(show some (ah _ _ (if D 7=true then _ else _))=some (ah _ _ (if D 7=true then _ else _));rw[n7];rfl)
         |4=>rfl
         |5=>(show(if D 3=true then none else none)=none;rw[d3];rfl)
         |6=>rfl
         |q+7=>exact((if_neg (show¬(q+7=1) by omega)).trans (if_neg (show¬(q+7=5) by omega))).symm))
     refine Cs (fun D s wx hR _ hd _ _ hs K hK=>?_) ?_
     ·have e5:=hs.o 5 (.pointer (some ⟨T,0,none⟩));clear hs;go_simp;exact hK s wx sv hR
     refine Cs (fun D s wx hR (hDi:D 7=false) hd _ _ hs K hK=>?_) ?_
     ·have e37:=hs.v 6 37 hd;have e36:=hs.v 5 36 hd;clear hs;have kb:fU wx T 26 #[.int .i64 st,gv,dv]:=hR.blk 3 (by simp only[hDi];rfl);have f0:=kb.frozen;have c2':wx.cell? ⟨T,2,none⟩=some (dv):=kb.cell 2;go_simp
      exact hK s _ sv ((hR.set 3 (cs:=#[.int .i64 st,gv,dv]) (by simp only[hDi];rfl) 2 _).congr
       (fun i=>by
        match i with
        |0 | 1 | 2 | 3 | 4 | 5 | 6=>rfl
        |q+7=>exact(if_neg (show¬(q+7=3) by omega)).symm))
     exact aj.nil
    ·intro D s wx hR hD;simp only[eH,Act.put,aO,aU,aW]
     have HS2:Hid (St w wx (fG w g (hi+30+20*(ds.length+1))::fD (.slice s.2.2.2.2.1 (ds.length+1) s.2.2.2.2.2) (ds++[s.1.1])::ax gv goal::ah T 26 #[.int .i64 st,gv,(.slice s.2.2.2.2.1 (ds.length+1) s.2.2.2.2.2)]::ah r 26 #[.int .i64 0,.slice none 0 0,.slice none 0 0]::L)):=af ((hR.re (M':=fun i=>(fG w g (hi+30+20*(ds.length+1))::fD (.slice s.2.2.2.2.1 (ds.length+1) s.2.2.2.2.2) (ds++[s.1.1])::ax gv goal::ah T 26 #[.int .i64 st,gv,(.slice s.2.2.2.2.1 (ds.length+1) s.2.2.2.2.2)]::ah r 26 #[.int .i64 0,.slice none 0 0,.slice none 0 0]::L)[i]?) up5 (fun i=>by
      refine .inr ?_
      match i with
      |0=>simp only[hD 3 (by decide),hD 4 (by decide),hD 5 (by decide),hD 7 (by decide)];rfl
      |1=>simp only[hD 3 (by decide),hD 4 (by decide),hD 5 (by decide),hD 7 (by decide)];rfl
      |2=>rfl
      |3=>simp only[hD 3 (by decide),hD 4 (by decide),hD 5 (by decide),hD 7 (by decide)];rfl
      |4=>rfl
      |q+5=>rfl) (fun i j _ _ h=>Qx h)).all fun i=>rfl)
     have adS:Hid (∀d∈ds++[s.1.1],Eh d):=af fun d hd=>(List.mem_append.1 hd).elim (WZ.out d) fun h=>by rw[List.mem_singleton] at h;rw[h];exact s.1.2
     have hlen:(ds++[s.1.1]).length=ds.length+1:=by simp
     have HLN:=af hlen;clear hR hD hlen;go_wp2
     go_roundw
     case rel=>exact⟨j-1,ds++[s.1.1],.slice s.2.2.2.2.1 (ds.length+1) s.2.2.2.2.2,by rw[HLN.out];omega,by go_num,adS.out,by rw[HLN.out];exact HS2.out⟩
     case measure=>simp[intOf];omega
   ·have hjz:j=0:=by omega
    subst hjz
    go_wp2_with fail
    refine(dQ HS.out (by omega) 4).mono ?_;rintro e w8 ⟨x8,rfl,⟨d1,d2,-⟩,s8⟩;have d3:=d2 (by omega);obtain⟨A8,c8,hdv,-⟩:=s8.WQ 1 rfl;obtain⟨m,hm⟩:∃m,ds.length=m:=⟨_,rfl⟩;have nJ:Hid (St w w8 (fG w g (hi+160)::fD dv ds::ax gv goal::ah T 26 #[.int .i64 st,gv,dv]::ah r 26 #[.int .i64 0,.slice none 0 0,.slice none 0 0]::L)):=af (s8.more (by omega));rw[hm] at hdv;have HDV:=Bx.mk hdv;have HM:=af hm;have hm6:m≤6:=by omega
    clear s8 d2 HS hj0 hj hdv hm
    go_upto_if 40 with(fail)
    go_cut [7] (fun s7 wx=>∃ds',ds'.length=m∧(∀d∈ds',uY 600 d)∧St w wx (fG w g (hi+160)::fD dv ds'::ax gv goal::ah T 26 #[.int .i64 st,gv,dv]::ah r 26 #[.int .i64 0,.slice none 0 0,.slice none 0 0]::L))
    case first=>
     by_cases h8:x8=0
     ·subst h8;go_wp2
      go_loopw [7] (fun kv wr=>∃(k:Nat) (ds':List au),k≤m∧kv= .int .i64 k∧Hid (ds'.length=m)∧Hid (∀i,k≤i→ds'[i]? =ds[i]?)∧Hid (∀d∈ds',uY 600 d)∧St w wr (fG w g (hi+160)::fD dv ds'::ax gv goal::ah T 26 #[.int .i64 st,gv,dv]::ah r 26 #[.int .i64 0,.slice none 0 0,.slice none 0 0]::L)) (fun kv _=>m-(intOf kv).toNat)
      case atStart=>exact⟨0,ds,by omega,rfl,HM,af fun _ _=>rfl,af fun d hd=>(WZ.out d hd).mono (by omega),nJ.out⟩
      case round=>
       clear nJ;obtain⟨k,ds',hk,rfl,Qy,Qz,HB,S⟩:=hrel;have HS:=af S;have qT:=S.cells 3 rfl
       by_cases hlt:k<m
       ·obtain⟨g9,c9,d9,A9,n9,c9',hdv,hcap,hmax,hd9,q0,q1,q2,q3,fz,-,-⟩:=S.Vo 1 rfl (k:=k) (by rw[Qy.out];exact hlt);have hDB:uY 200 d9:=WZ.out d9 (bT (by rw[←Qz.out k (aA _)];exact hd9));obtain⟨-,ho1,ho2,ho3⟩:=hDB;rw[Qy.out] at hdv hcap;subst hdv
        unfold maxLen at hmax
        obtain⟨on,hon⟩:∃on,d9.on=on:=⟨_,rfl⟩;obtain⟨off,hoff⟩:∃off,d9.off=off:=⟨_,rfl⟩;obtain⟨fl,hfl⟩:∃fl,d9.flip=fl:=⟨_,rfl⟩;rw[hon] at q1 ho1;rw[hoff] at q2 ho2;rw[hfl] at q3 ho3;have hwa:IntKind.i64.wrap (on+off)=on+off:=IntWalk.i64_in _ (by omega);have hwb:IntKind.i64.wrap (on+off+fl)=on+off+fl:=IntWalk.i64_in _ (by omega);obtain⟨bd,hbd⟩:∃bd,wr.heap.size=bd:=⟨_,rfl⟩;have S2:St w (wr.alloc (.cells #[.slice A9 n9 c9',.int .i64 on,.int .i64 off,.int .i64 fl] 144)) (fG w g (hi+160)::ah bd 144 #[.slice A9 n9 c9',.int .i64 on,.int .i64 off,.int .i64 fl]::fD (.slice (some ⟨g9,0,none⟩) m c9) ds'::ax gv goal::ah T 26 #[.int .i64 st,gv,.slice (some ⟨g9,0,none⟩) m c9]::ah r 26 #[.int .i64 0,.slice none 0 0,.slice none 0 0]::L):=by rw[←hbd];exact S.alloc1 _ _
        have S3:St w ((wr.alloc (.cells #[.slice A9 n9 c9',.int .i64 on,.int .i64 off,.int .i64 fl] 144)).alloc (.cells #[.int .i64 5] 3)) (fG w g (hi+160)::ax (.slice (some ⟨bd+1,0,none⟩) 1 1) [5]::ah bd 144 #[.slice A9 n9 c9',.int .i64 on,.int .i64 off,.int .i64 fl]::fD (.slice (some ⟨g9,0,none⟩) m c9) ds'::ax gv goal::ah T 26 #[.int .i64 st,gv,.slice (some ⟨g9,0,none⟩) m c9]::ah r 26 #[.int .i64 0,.slice none 0 0,.slice none 0 0]::L):=by
         have:=S2.qL (St.lit _ [5] 1 rfl (by simp) (sW.one (by omega) (by omega)).wf)
         simp only[World.size_alloc,hbd] at this;exact this
        have q5:=S3.cells 2 rfl;have q6:=S2.cells 4 rfl;have q7:=S3.cells 5 rfl;obtain⟨g9',c9x,d9',A9',n9',c9y,hv',-,-,-,p0,p1,p2,p3,fz',-,-⟩:=S3.Vo 3 rfl (k:=k) (by rw[Qy.out];exact hlt);simp only[Value.slice.injEq,Option.some.injEq,Addr.mk.injEq,and_true] at hv';obtain⟨rfl,-,-⟩:=hv';have fH:=af (((St.lT (d:=⟨[5],0,0,on+off+fl⟩) (i:=k) ((S3.bring 1 rfl).bring 3 rfl) Qy.out hlt (by simp) ⟨rfl,rfl,show(Lit.int .i64 (on+off+fl)).wf=true from bU (by omega)⟩).bring 1 rfl).rid 2 rfl);have HB2:Hid (∀d∈ds'.set k ⟨[5],0,0,on+off+fl⟩,uY 600 d):=af fun d hd=>(List.mem_or_eq_of_mem_set hd).elim (HB.out d) fun e=>by subst e;exact⟨by simp,by simp,by simp,by simp only;omega⟩
        have HL2:Hid ((ds'.set k ⟨[5],0,0,on+off+fl⟩).length=m):=af (by rw[List.length_set];exact Qy.out);have adT:Hid (∀i,k+1≤i→(ds'.set k ⟨[5],0,0,on+off+fl⟩)[i]? =ds[i]?):=af fun i hi=>by rw[List.getElem?_set_ne (by omega)];exact Qz.out i (by omega)
        clear S S2 S3 hon hoff hfl hd9;go_wp2
        go_roundw
        case rel=>exact⟨k+1,_,by omega,by go_num,HL2,adT,HB2,fH.out⟩
        case measure=>simp[intOf];omega
       ·have adU:=HDV.out;subst adU;clear S HDV;go_wp2
        go_meet
        case rel=>exact⟨ds',Qy.out,HB.out,HS.out⟩
     ·have h8':(x8 == 0)=false:=by simpa using h8
      clear h8;go_wp2
      go_meet
      case rel=>exact⟨ds,HM.out,fun d hd=>(WZ.out d hd).mono (by omega),nJ.out⟩
    case rest=>
     clear WZ nJ HM d1 d3;obtain⟨ds',hl',hb',SC⟩:=hcut;have fP:=af SC;have HB9:=af hb';have Xz:=af hl';clear SC hb' hl'
     go_wp2_with fail
     refine(rW fP.out (by omega) n).mono ?_;rintro e w10 ⟨b10,rfl,s10⟩;have BU:=af s10;clear s10 fP
     go_upto_if 69 with(fail)
     go_cut [7] (fun s7 wx=>∃(st:Int) (goal:List Int) (gv dv:Value) (ds:List au),goal.length≤6∧ds.length≤7∧(-1≤st∧st≤32)∧(∀d∈ds,uY 600 d)∧St w wx (fG w g (hi+200)::fD dv ds::ax gv goal::ah T 26 #[.int .i64 st,gv,dv]::ah r 26 #[.int .i64 0,.slice none 0 0,.slice none 0 0]::L))
     case first=>
      cases b10 with
      |false=>
       have FM:=af (BU.out.more (hi':=hi+200) (by omega));go_wp2
       go_meet
       case rel=>exact⟨st,goal,gv,dv,ds',hgl,by have:=Xz.out;omega,by omega,HB9.out,FM.out⟩
      |true=>
       go_wp2_with fail
       refine(dQ BU.out (by omega) 3).mono ?_;rintro e Ue ⟨x11,rfl,⟨e1,e2,-⟩,s11⟩;have e3:=e2 (by omega);have FM:=af s11;clear s11 e2 BU
       by_cases h0:x11=0
       ·subst h0;obtain⟨bl,hbl⟩:∃bl,Ue.heap.size=bl:=⟨_,rfl⟩;have Sl:Hid (St w (Ue.alloc (.cells #[.int .i64 (-1),.int .i64 32] 3)) (fG w g (hi+162)::ax (.slice (some ⟨bl,0,none⟩) 2 2) [-1,32]::fD dv ds'::ax gv goal::ah T 26 #[.int .i64 st,gv,dv]::ah r 26 #[.int .i64 0,.slice none 0 0,.slice none 0 0]::L)):=af (by rw[←hbl];exact FM.out.qL (St.lit Ue [-1,32] 2 rfl (by simp) (by intro x hx;simp at hx;rcases hx with rfl | rfl<;>rfl)))
        go_wp2_with fail
        refine(dQ Sl.out (by omega) 2).mono ?_;rintro e w12 ⟨x12,rfl,⟨f1,f2,-⟩,s12⟩;have f3:=f2 (by omega);obtain⟨i12,rfl⟩:=bC f1
        obtain⟨y,hy,hy1⟩:∃y,([-1,32]:List Int)[i12]? =some y∧-1≤y∧y≤32:=by
         obtain rfl | rfl:i12=0∨i12=1:=by omega
         ·exact⟨-1,rfl,by omega,by omega⟩
         ·exact⟨32,rfl,by omega,by omega⟩
        obtain⟨q12,-⟩:=s12.oK 1 rfl rfl i12 y hy;have qT:=s12.cells 4 rfl;have fT:=s12.free 4 rfl;have Vp:=af (((s12.set 4 rfl 0 (.int .i64 y)).rid 1 rfl).more (hi':=hi+200) (by omega))
        try rw[hbl]
        clear s12 f2 Sl FM hbl hy;go_wp2
        go_meet
        case rel=>exact⟨y,goal,gv,dv,ds',hgl,by have:=Xz.out;omega,hy1,HB9.out,Vp.out⟩
       have h0':(x11 == 0)=false:=by simpa using h0
       by_cases h1:x11=1
       ·subst h1;clear h0 h0';have s12:=FM.out.qL (St.lit Ue [] 0 rfl (by simp) (by simp));have qT:∀j,(Ue.alloc (.cells #[] 3)).cell? ⟨T,j,none⟩=_:=s12.cells 4 rfl;have fT:∀j,(Ue.alloc (.cells #[] 3)).frozen? ⟨T,j,none⟩=false:=s12.free 4 rfl;have Vp:=af (((((s12.set 4 rfl 1 (.slice (some ⟨Ue.heap.size,0,none⟩) 0 0)).rid 3 rfl).bring 2 rfl).bring 1 rfl).more (hi':=hi+200) (by omega));clear s12 FM;go_wp2
        go_meet
        case rel=>exact⟨st,[],_,dv,ds',by simp,by have:=Xz.out;omega,by omega,HB9.out,Vp.out⟩
       have h1':(x11 == 1)=false:=by simpa using h1
       clear h0 h1;have qT:=FM.out.cells 3 rfl;have fT:=FM.out.free 3 rfl;obtain⟨cells,hrow⟩:=FM.out.adH 1 rfl;rw[Xz.out] at hrow;have nO:=af hrow
       have jL:Hid (∀v12 w12,w12.ownsRow 0 144 4 v12 (m+1) (cells++[.slice none 0 0,.int .i64 0,.int .i64 0,.int .i64 0])→(Ue.alloc (.cells #[.slice none 0 0,.int .i64 0,.int .i64 0,.int .i64 0] 144)).grownBy w12 dv.ownBlock→(v12.ownBlock=dv.ownBlock∨v12.ownBlock=some (Ue.alloc (.cells #[.slice none 0 0,.int .i64 0,.int .i64 0,.int .i64 0] 144)).heap.size)→
         St w w12 (fG w g (hi+200)::fD v12 (ds'++[⟨[],0,0,0⟩])::ax gv goal::ah T 26 #[.int .i64 st,gv,dv]::ah r 26 #[.int .i64 0,.slice none 0 0,.slice none 0 0]::L)):=af fun v12 w12 h1 h2 h3=>by
        have S:=((FM.out.alloc1 #[.slice none 0 0,.int .i64 0,.int .i64 0,.int .i64 0] 144).rid 1 rfl).qL (iw _ _ (ai _ _));have S2:=St.abE (d:=⟨[],0,0,0⟩) ((S.bring 1 rfl).bring 2 rfl) (by simp) ⟨rfl,rfl,rfl⟩ (by rw[Xz.out];omega) (by rw[Xz.out]) (by rw[Xz.out];exact nO.out.alloc _) h1 h2 h3;exact(S2.bring 1 rfl).more (by omega)
       clear hrow
       go_wp2_with (at_builtin;refine cZ zJ rfl (.tmp 73) (.tmp 75) rfl 0 dv m cells rfl (nO.out.alloc _) _ _ 1 1 [.slice none 0 0,.int .i64 0,.int .i64 0,.int .i64 0] rfl (bJ.new Ue [.slice none 0 0,.int .i64 0,.int .i64 0,.int .i64 0] 144 4 1 rfl (by unfold maxLen;omega)) (by simp[Value.oneCell']) (by omega) (by omega) (Nat.zero_le _) ?_;intro v12 w12 OT acz Zq;obtain⟨A12,c12,adV⟩:=dR OT;subst adV;have Sl:=af (jL.out _ w12 OT acz Zq);have q12:∀j,w12.cell? ⟨T,j,none⟩=_:=Sl.out.cells 3 rfl;have f12:=Sl.out.free 3 rfl;clear OT acz Zq)
       have Vp:=af (Sl.out.set 3 rfl 2 (.slice A12 (m+1) c12));have adW:Hid (∀d∈ds'++[⟨[],0,0,0⟩],uY 600 d):=af fun d hd=>(List.mem_append.1 hd).elim (HB9.out d) fun h=>by rw[List.mem_singleton] at h;subst h;exact⟨by simp,by simp,by simp,by simp⟩
       have adX:Hid ((ds'++[(⟨[],0,0,0⟩:au)]).length≤7):=af (by have:=Xz.out;simp;omega);go_wp2
       go_meet
       case rel=>exact⟨st,goal,gv,_,_,hgl,adX.out,by omega,adW.out,Vp.out⟩
     case rest=>
      clear BU HB9 Xz;obtain⟨st',goal',gv',dv',ds2,h1,h2,h3,h4,SC⟩:=hcut;obtain⟨A13,c13,adY,-⟩:=SC.uj 2 rfl;obtain⟨A14,c14,adZ,-⟩:=SC.WQ 1 rfl;subst adY adZ;have qT:=SC.cells 3 rfl;have qr:=SC.cells 4 rfl;have fr:=SC.free 4 rfl;have HB:=af h4;have HFI:Hid (St w (((wc.setCell ⟨r,0,none⟩ (.int .i64 st')).setCell ⟨r,1,none⟩ (.slice A13 goal'.length c13)).setCell ⟨r,2,none⟩ (.slice A14 ds2.length c14)) (fG w g (hi+200)::lI (.agg #[.int .i64 st',.slice A13 goal'.length c13,.slice A14 ds2.length c14]) ⟨st',goal',ds2⟩::L)):=af (((((((SC.Um 4 rfl (.int .i64 st') (.slice A13 goal'.length c13) (.slice A14 ds2.length c14)).rid 3 rfl).rid 3 rfl).bring 1 rfl).bring 2 rfl).task (by omega) (bU (by omega))).bring 1 rfl);clear SC h4;go_wp2;refine bodyPost_ret (v:=.agg #[.int .i64 st',.slice A13 goal'.length c13,.slice A14 ds2.length c14]) (by simp[results,Tryz.results100,go_sem,qr]) rfl ⟨_,⟨st',goal',ds2⟩,rfl,⟨h1,h2,h3,HB.out⟩,HFI.out⟩
def cntF:Nat→Nat→Nat
 |0,_=>0
 |f+1,n=>if n=0 then 0 else 1+cntF f (n &&& (n-1))
def iY (n:Nat):Nat:=cntF n n
theorem MW (f:Nat):∀f' n,n≤f→n≤f'→cntF f n=cntF f' n:=by
 induction f with
 |zero=>intro f' n h _;obtain rfl:n=0:=by omega
        cases f'<;>simp[cntF]
 |succ f ih=>
  intro f' n h h'
  by_cases hn:n=0
  ·subst hn;cases f'<;>simp[cntF]
  ·cases f' with
   |zero=>omega
   |succ f'=>
    have hle:n &&& (n-1)≤n-1:=Nat.and_le_right;rw[cntF,cntF,if_neg hn,if_neg hn,ih f' _ (by omega) (by omega)]
theorem H7:iY 0=0:=rfl
theorem TD (n:Nat) (h:0<n):iY n=1+iY (n &&& (n-1)):=by
 unfold iY
 cases n with
 |zero=>omega
 |succ m=>
  have hle:(m+1) &&& (m+1-1)≤m+1-1:=Nat.and_le_right;rw[cntF,if_neg (by omega)];rw[MW m _ _ (by omega) (aA _)]
theorem ou (n:Nat) (hn:n<4611686018427387904) (w:World):
  Calls Tryz.prog 138 #[.int .i64 n] w fun e w'=>e= .returned (.int .i64 (iY n:Nat))∧w=w':=by
 go_enter Tryz.func138,Tryz.ntmps138;go_wp2
 go_loop [0,3] (fun s p=>∃m k:Nat,m≤n∧k+iY m=iY n∧k+m≤n∧s= .int .i64 m∧p= .int .i64 k) (fun s _=>(intOf s).toNat)
 case atStart=>exact⟨n,0,aA _,by omega,by omega,rfl,rfl⟩
 case round=>
  obtain⟨m,k,hm,hk,hkm,rfl,rfl⟩:=hrel;have HK:=af hk;clear hk
  by_cases hz:0<m
  ·have hle:m &&& (m-1)≤m-1:=Nat.and_le_right;have hx:=jP m (m-1) (by omega) (by omega);have hs:((m-1:Nat):Int)=(m:Int)-1:=by omega
   rw[hs] at hx;have HS:=af (TD m hz)
   generalize m &&& (m-1)=m' at*
   clear hs;have hne:((m:Int) != 0)=true:=by rw[bne_iff_ne];omega
   go_wp2
   go_round
   case rel=>exact⟨m',k+1,by omega,by have:=HS.out;have:=HK.out;omega,by omega,rfl,by go_num⟩
   case measure=>simp[intOf];omega
  ·obtain rfl:m=0:=by omega
   go_wp2;go_ret;refine⟨aP ?_,rfl⟩
   have:=HK.out
   rw[H7] at this
   show(k:Int)=_
   omega
theorem oz (n:Int) (h0:0≤n) (hn:n<4611686018427387904) (w:World):
  Calls Tryz.prog 138 #[.int .i64 n] w fun e w'=>e= .returned (.int .i64 (iY n.toNat:Nat))∧w=w':=by
 have h:=ou n.toNat (by omega) w
 rwa[toNat_cast h0] at h
end Go.Proofs.YtkmcengmglgdeaaGreatDoor





namespace Go.Proofs.YtkmcengmglgdeaaGreatDoor
set_option linter.unusedVariables false
set_option linter.unusedSimpArgs false
set_option maxRecDepth 100000
set_option maxHeartbeats 8000000
open Go.ChangeShapes Go.WideShapes Go.ChangeAt Go.RowKit
theorem Cj (g n c a b x y:Nat) (hx:x<512) (hy:y<512) (ha:a<n) (hb:b<n) (hne:a≠b) (hn:n≤9) (w:World)
  (ca:w.cell? ⟨g,a,none⟩=some (.int .i64 x)) (cb:w.cell? ⟨g,b,none⟩=some (.int .i64 y)) (fa:w.frozen? ⟨g,a,none⟩=false) (fb:w.frozen? ⟨g,b,none⟩=false):
  Calls Tryz.prog 139 #[.slice (some ⟨g,0,none⟩) n c,.int .i64 a,.int .i64 b] w fun e w'=>e= .returned (.tuple #[])∧
   Same w' ((w.setCell ⟨g,a,none⟩ (.int .i64 (x ||| 2^b:Nat))).setCell ⟨g,b,none⟩ (.int .i64 (y ||| 2^a:Nat))):=by
 have hpa:=Nat.pow_le_pow_right (show 0<2 by omega) (show a≤9 by omega);have hpb:=Nat.pow_le_pow_right (show 0<2 by omega) (show b≤9 by omega);have o1:=nT x (2^b) (by omega) (by omega);have o2:=nT y (2^a) (by omega) (by omega);have w1:=iK b (by omega);have w2:=iK a (by omega);have e1:(((2:Nat)^b:Nat):Int)=2^b:=by simp
 have e2:(((2:Nat)^a:Nat):Int)=2^a:=by simp
 rw[e1] at o1;rw[e2] at o2
 generalize x ||| 2^b=x' at*
 generalize y ||| 2^a=y' at*
 clear hpa hpb e1 e2 hx hy
 have cb':∀v,(w.setCell ⟨g,a,none⟩ v).cell? ⟨g,b,none⟩=some (.int .i64 y):=fun v=>by
  rw[World.cell?_setCell_other _ _ _ _ (fun e=>hne (congrArg Addr.off e))];exact cb
 have fb':∀v,(w.setCell ⟨g,a,none⟩ v).frozen? ⟨g,b,none⟩=false:=fun v=>by
  rw[World.frozen?_setCell];exact fb
 go_enter Tryz.func139,Tryz.ntmps139;go_wp2
 go_region
 all_goals go_wp2
 all_goals go_region
 all_goals (go_end0;exact⟨rfl,rfl,rfl,rfl,rfl⟩)
theorem nI (g n c a b x y:Nat) (cs:Array Value) (hx:x<512) (hy:y<512) (ha:a<n) (hb:b<n) (hne:a≠b) (hn:n≤9) (w:World) (t:TypeId) (hk:fU w g t cs)
  (ca:cs[a]? =some (.int .i64 x)) (cb:cs[b]? =some (.int .i64 y)):
  Calls Tryz.prog 139 #[.slice (some ⟨g,0,none⟩) n c,.int .i64 a,.int .i64 b] w fun e w'=>e= .returned (.tuple #[])∧
   fU w' g t ((cs.setIfInBounds a (.int .i64 (x ||| 2^b:Nat))).setIfInBounds b (.int .i64 (y ||| 2^a:Nat)))∧w.grownBy w' (some g):=
 (Cj g n c a b x y hx hy ha hb hne hn w ((hk.cell a).trans ca) ((hk.cell b).trans cb) (hk.frozen a) (hk.frozen b)).mono fun _ _ ⟨he,hs⟩=>
  ⟨he,hs.blk ((hk.nM a _).nM b _),hs.grown (Ro (Dy w g a _) b _)⟩
def i4 (a b c d:Int):Array Value:=#[.int .i64 a,.int .i64 b,.int .i64 c,.int .i64 d]
theorem PY (w:World):
  Calls Tryz.prog 69 #[.int .i64 2,.int .i64 2] w fun e w'=>(∃g,e= .returned (.agg #[.slice (some ⟨g,0,none⟩) 4 4])∧fU w' g 3 (i4 6 9 9 6))∧Below w.heap.size w w':=by
 have hmk:∀W,(Instr.makeSlice 23 (.int .i64 4) (.int .i64 4)).run Tryz.prog W= .ok (.slice (some ⟨W.heap.size,0,none⟩) 4 4) (W.alloc (.cells #[.int .i64 0,.int .i64 0,.int .i64 0,.int .i64 0] 3)):=fun _=>by kernel_rfl
 go_enter Tryz.func69,Tryz.ntmps69;go_wp2
 go_loopw [35] (fun i wr=>Below w.heap.size w wr∧fU wr w.heap.size 94 #[.slice none 0 0]∧((i= .int .i64 0∧fU wr (w.heap.size+1) 3 (i4 0 0 0 0))∨(i= .int .i64 1∧fU wr (w.heap.size+1) 3 (i4 6 9 1 2))∨(i= .int .i64 2∧fU wr (w.heap.size+1) 3 (i4 6 9 9 6)))) (fun i _=>2-(intOf i).toNat)
 case atStart=>exact⟨((ai _ _).alloc (aA _) _).alloc (by simp) _,(fU.new _ _ _).alloc _,.inl ⟨rfl,by have:=fU.new (w.alloc (Obj.cells #[Value.slice none 0 0] 94)) 3 (i4 0 0 0 0);rw[World.size_alloc] at this;exact this⟩⟩
 case round=>
  obtain⟨hb,hr,⟨rfl,hk⟩ | ⟨rfl,hk⟩ | ⟨rfl,hk⟩⟩:=hrel
  ·go_wp2
   go_loopw [39] (fun i wr=>Below w.heap.size w wr∧fU wr w.heap.size 94 #[.slice none 0 0]∧((i= .int .i64 0∧fU wr (w.heap.size+1) 3 (i4 0 0 0 0))∨(i= .int .i64 1∧fU wr (w.heap.size+1) 3 (i4 6 1 1 0))∨(i= .int .i64 2∧fU wr (w.heap.size+1) 3 (i4 6 9 1 2)))) (fun i _=>2-(intOf i).toNat)
   case atStart=>exact⟨hb,hr,.inl ⟨rfl,hk⟩⟩
   case round=>
    obtain⟨hb,hr,⟨rfl,hk⟩ | ⟨rfl,hk⟩ | ⟨rfl,hk⟩⟩:=hrel
    ·go_wp2_with fail
     refine(nI (w.heap.size+1) 4 4 0 1 0 0 _ (by omega) (by omega) (by omega) (by omega) (by omega) (by omega) _ _ hk rfl rfl).mono ?_;rintro e w1 ⟨rfl,hk1,hg1⟩;have hr1:=hr.grown hg1 (by simp);have hb1:=hb.grown hg1 hb.size (fun k hk=>by cases hk;omega)
     go_wp2_with fail
     refine(nI (w.heap.size+1) 4 4 0 2 2 0 _ (by omega) (by omega) (by omega) (by omega) (by omega) (by omega) _ _ hk1 rfl rfl).mono ?_;rintro e w2 ⟨rfl,hk2,hg2⟩;have hr2:=hr1.grown hg2 (by simp);have hb2:=hb1.grown hg2 hb1.size (fun k hk=>by cases hk;omega);go_wp2
     go_roundw
     case rel=>exact⟨hb2,hr2,.inr (.inl ⟨rfl,hk2⟩)⟩
     case measure=>simp[intOf]
    ·go_wp2_with fail
     refine(nI (w.heap.size+1) 4 4 1 3 1 0 _ (by omega) (by omega) (by omega) (by omega) (by omega) (by omega) _ _ hk rfl rfl).mono ?_;rintro e w1 ⟨rfl,hk1,hg1⟩;have hr1:=hr.grown hg1 (by simp);have hb1:=hb.grown hg1 hb.size (fun k hk=>by cases hk;omega);go_wp2
     go_roundw
     case rel=>exact⟨hb1,hr1,.inr (.inr ⟨rfl,hk1⟩)⟩
     case measure=>simp[intOf]
    ·go_wp2
     go_roundw
     case rel=>exact⟨hb,hr,.inr (.inl ⟨rfl,hk⟩)⟩
     case measure=>simp[intOf]
  ·go_wp2
   go_loopw [39] (fun i wr=>Below w.heap.size w wr∧fU wr w.heap.size 94 #[.slice none 0 0]∧((i= .int .i64 0∧fU wr (w.heap.size+1) 3 (i4 6 9 1 2))∨(i= .int .i64 1∧fU wr (w.heap.size+1) 3 (i4 6 9 9 6))∨(i= .int .i64 2∧fU wr (w.heap.size+1) 3 (i4 6 9 9 6)))) (fun i _=>2-(intOf i).toNat)
   case atStart=>exact⟨hb,hr,.inl ⟨rfl,hk⟩⟩
   case round=>
    obtain⟨hb,hr,⟨rfl,hk⟩ | ⟨rfl,hk⟩ | ⟨rfl,hk⟩⟩:=hrel
    ·go_wp2_with fail
     refine(nI (w.heap.size+1) 4 4 2 3 1 2 _ (by omega) (by omega) (by omega) (by omega) (by omega) (by omega) _ _ hk rfl rfl).mono ?_;rintro e w1 ⟨rfl,hk1,hg1⟩;have hr1:=hr.grown hg1 (by simp);have hb1:=hb.grown hg1 hb.size (fun k hk=>by cases hk;omega);go_wp2
     go_roundw
     case rel=>exact⟨hb1,hr1,.inr (.inl ⟨rfl,hk1⟩)⟩
     case measure=>simp[intOf]
    ·go_wp2
     go_roundw
     case rel=>exact⟨hb,hr,.inr (.inr ⟨rfl,hk⟩)⟩
     case measure=>simp[intOf]
    ·go_wp2
     go_roundw
     case rel=>exact⟨hb,hr,.inr (.inr ⟨rfl,hk⟩)⟩
     case measure=>simp[intOf]
  ·have c0:wr.cell? ⟨w.heap.size,0,none⟩=some (.slice none 0 0):=hr.cell 0;have f0:wr.frozen? ⟨w.heap.size,0,none⟩=false:=hr.frozen 0;go_wp2;exact bodyPost_ret (v:=.agg #[.slice (some ⟨w.heap.size+1,0,none⟩) 4 4]) (by simp[results,Tryz.results69,go_sem,c0]) rfl ⟨⟨_,rfl,hk.far (by simp) _⟩,hb.setCell (by simp) _⟩
theorem Fb (g:Nat) (w:World) (hg:g<w.heap.size) (hk:fU w g 3 (i4 6 9 9 6)):
  Calls Tryz.prog 68 #[.agg #[.slice (some ⟨g,0,none⟩) 4 4]] w fun e w'=>e= .returned (.int .i64 4)∧Below w.heap.size w w':=by
 have hrd:∀W,W.heap[g]? =w.heap[g]? →g<W.heap.size→jd .i64 W W.heap.size (some ⟨g,0,none⟩) 4 4 [6,9,9,6]:=fun W hW hlt=>⟨rfl,by omega,by unfold maxLen;omega,by decide,fun _=>⟨g,0,rfl,hlt,fun i x hx=>by
  have hb:fU W g 3 (i4 6 9 9 6):=hW.trans hk;rw[Nat.zero_add,hb.cell i]
  rcases i with _ | _ | _ | _ | i
  ·cases hx;rfl
  ·cases hx;rfl
  ·cases hx;rfl
  ·cases hx;rfl
  ·simp at hx⟩⟩
 have zY:=af hrd;clear hrd;go_enter Tryz.func68,Tryz.ntmps68
 go_wp2_with fail
 refine(Cm _ 4 4 [6,9,9,6] _ (zY.out _ (Below.heap_alloc _ _ _ hg) (by simp;omega))).mono ?_;rintro e w1 ⟨rfl,hb1⟩;have hgo:oC [6,9,9,6]=true:=by decide
 rw[hgo];have hbl:Below w.heap.size w w1:=((ai _ _).alloc (aA _) _).trans (hb1.mono (by simp));have hk1:fU w1 g 3 (i4 6 9 9 6):=hk.below hbl hg
 have hr1:w1.cell? ⟨w.heap.size,0,none⟩=some (.slice (some ⟨g,0,none⟩) 4 4):=by
  rw[hb1.cell (p:=⟨w.heap.size,0,none⟩) (by simp)];exact(fU.new _ _ _).cell 0
 have q0:w1.cell? ⟨g,0,none⟩=some (.int .i64 6):=hk1.cell 0;have q1:w1.cell? ⟨g,1,none⟩=some (.int .i64 9):=hk1.cell 1;have q2:w1.cell? ⟨g,2,none⟩=some (.int .i64 9):=hk1.cell 2;have q3:w1.cell? ⟨g,3,none⟩=some (.int .i64 6):=hk1.cell 3;go_wp2
 go_loop [12,3] (fun i s=>(i= .int .i64 0∧s= .int .i64 0)∨(i= .int .i64 1∧s= .int .i64 2)∨(i= .int .i64 2∧s= .int .i64 4)∨(i= .int .i64 3∧s= .int .i64 6)∨(i= .int .i64 4∧s= .int .i64 8)) (fun i _=>4-(intOf i).toNat)
 case atStart=>exact .inl ⟨rfl,rfl⟩
 case round=>
  have p6:iY 6=2:=by decide
  have p9:iY 9=2:=by decide
  rcases hrel with⟨rfl,rfl⟩ | ⟨rfl,rfl⟩ | ⟨rfl,rfl⟩ | ⟨rfl,rfl⟩ | ⟨rfl,rfl⟩
  ·go_wp2_with (go_at_call 138;refine(oz _ (by omega) (by omega) _).mono ?_;rintro e w' ⟨rfl,rfl⟩)
   go_round
   case rel=>exact .inr (.inl ⟨rfl,rfl⟩)
   case measure=>simp[intOf]
  ·go_wp2_with (go_at_call 138;refine(oz _ (by omega) (by omega) _).mono ?_;rintro e w' ⟨rfl,rfl⟩)
   go_round
   case rel=>exact .inr (.inr (.inl ⟨rfl,rfl⟩))
   case measure=>simp[intOf]
  ·go_wp2_with (go_at_call 138;refine(oz _ (by omega) (by omega) _).mono ?_;rintro e w' ⟨rfl,rfl⟩)
   go_round
   case rel=>exact .inr (.inr (.inr (.inl ⟨rfl,rfl⟩)))
   case measure=>simp[intOf]
  ·go_wp2_with (go_at_call 138;refine(oz _ (by omega) (by omega) _).mono ?_;rintro e w' ⟨rfl,rfl⟩)
   go_round
   case rel=>exact .inr (.inr (.inr (.inr ⟨rfl,rfl⟩)))
   case measure=>simp[intOf]
  ·go_wp2;go_ret;exact⟨rfl,hbl⟩
theorem alive_any (w:World):Calls Tryz.prog 14 #[] w fun e w'=>e= .returned (.bool true)∧Below w.heap.size w w':=by
 go_enter Tryz.func14,Tryz.ntmps14
 go_wp2_with fail
 refine(PY _).mono ?_;rintro e w1 ⟨⟨g,rfl,hk⟩,hb1⟩
 go_wp2_with fail
 refine(Fb g _ hk.lt hk).mono ?_;rintro e w2 ⟨rfl,hb2⟩;go_wp2;go_ret;exact⟨rfl,hb1.trans (hb2.mono hb1.size)⟩
theorem NQ {w W:World} {L:List dh} (S:St w W L) {A:Option Addr} {n c:Nat} {xs:List Int} (h:jd .u8 w w.heap.size A n c xs):
  Calls Tryz.prog 41 #[.slice A n c] W fun e w'=>∃g,e= .returned (.pointer (some ⟨g,0,none⟩))∧St w w' (fG w g 0::L):=by
 have hn:=h.cap;have hm:=h.dw
 unfold maxLen at hm
 by_cases hb:2000<n
 ·have HS:Hid (St w (W.alloc (.cells #[.slice A 2000 c,.int .i64 0] 125)) (fG w W.heap.size 0::L)):=af ((S.Vq #[.slice A 2000 c,.int .i64 0] 125).see fun F ⟨h1,h2⟩ _=>⟨h2,0,A,2000,c,_,aA _,aA _,lW h 2000 (by omega),h1⟩);clear S;go_enter Tryz.func41,Tryz.ntmps41;go_wp2;go_ret;exact⟨_,rfl,HS.out⟩
 ·have HS:Hid (St w (W.alloc (.cells #[.slice A n c,.int .i64 0] 125)) (fG w W.heap.size 0::L)):=af ((S.Vq #[.slice A n c,.int .i64 0] 125).see fun F ⟨h1,h2⟩ _=>⟨h2,0,A,n,c,_,aA _,by omega,h,h1⟩);clear S;go_enter Tryz.func41,Tryz.ntmps41;go_wp2;go_ret;exact⟨_,rfl,HS.out⟩
def ad9 (w:World) (e:Ending) (w':World):Prop:=∃v t,e= .returned v∧Vm t∧St w w' [lI v t]
theorem tK (A:Option Addr) (n c:Nat) (xs:List Int) (A':Option Addr) (n' c':Nat) (ys:List Int) (w:World) (h:jd .i64 w w.heap.size A n c xs) (h':jd .i64 w w.heap.size A' n' c' ys):
  Calls Tryz.prog 65 #[.slice A n c,.slice A' n' c'] w fun e w'=>e= .returned (.bool (decide (xs=ys)))∧∃q,w'=w.drewN q:=by
 have hl:=h.len;have hl':=h'.len;have hc:=h.cap;have hm:=h.dw
 unfold maxLen at hm
 by_cases hn:n=n'
 ·subst hn;have HL:=af hl;clear hl;have Qy:=af hl';clear hl';go_enter Tryz.func65,Tryz.ntmps65;go_wp2
  go_loopw [5] (fun i wr=>∃k q:Nat,k≤n∧i= .int .i64 k∧Hid (∀j,j<k→xs[j]? =ys[j]?)∧wr=w.drewN q) (fun i _=>n-(intOf i).toNat)
  case atStart=>exact⟨0,0,by omega,rfl,af (by omega),rfl⟩
  case round=>
   obtain⟨k,q,hk,rfl,hpre,rfl⟩:=hrel
   by_cases hlt:k<n
   ·obtain⟨b,off,x,rfl,hb,hx,hw,hc⟩:=h.get hlt;obtain⟨b',off',y,rfl,hb',hy,hw',hc'⟩:=h'.get hlt
    by_cases hxy:x=y
    ·subst hxy;have HX:=af (hx.trans hy.symm);clear hx hy;go_wp2
     go_quiet (fail)
     go_wp2
     go_roundw
     case rel=>exact⟨k+1,_,by omega,by go_num,af fun j hj=>by
      rcases Nat.lt_or_ge j k with h1 | h1
      ·exact hpre.out j h1
      ·obtain rfl:j=k:=by omega
       exact HX.out,rfl⟩
     case measure=>simp[intOf];omega
    ·have HF:Hid (decide (xs=ys)=false):=af (decide_eq_false fun e=>by rw[e,hy] at hx;injection hx with hx;exact hxy hx.symm);have hne:(x != y)=true:=by rw[bne_iff_ne];exact hxy
     clear hx hy hxy;go_wp2
     go_quiet (fail)
     go_wp2;go_ret;exact⟨aY HF.out.symm,_,World.drewN_drewN _ _ _⟩
   ·have HT:Hid (decide (xs=ys)=true):=af (decide_eq_true (List.ext_getElem? fun j=>by
     rcases Nat.lt_or_ge j k with h1 | h1
     ·exact hpre.out j h1
     ·rw[List.getElem?_eq_none (by rw[HL.out];omega),List.getElem?_eq_none (by rw[Qy.out];omega)]))
    go_wp2;go_ret;exact⟨aY HT.out.symm,_,rfl⟩
 ·have HF:Hid (decide (xs=ys)=false):=af (decide_eq_false fun e=>hn (by rw[←hl,←hl',e]));have hne:((n:Int) != (n':Int))=true:=by rw[bne_iff_ne];omega
  clear hl hl';go_enter Tryz.func65,Tryz.ntmps65;go_wp2;go_ret;exact⟨aY HF.out.symm,0,rfl⟩
theorem JW (A:Option Addr) (n c:Nat) (d:au) (A':Option Addr) (n' c':Nat) (d':au) (w:World) (h:jd .i64 w w.heap.size A n c d.need) (h':jd .i64 w w.heap.size A' n' c' d'.need):
  Calls Tryz.prog 133 #[.agg #[.slice A n c,.int .i64 d.on,.int .i64 d.off,.int .i64 d.flip],.agg #[.slice A' n' c',.int .i64 d'.on,.int .i64 d'.off,.int .i64 d'.flip]] w fun e w'=>e= .returned (.bool (decide (d=d')))∧Below w.heap.size w w':=by
 obtain⟨need,on,off,fl⟩:=d;obtain⟨need',on',off',fl'⟩:=d'
 simp only at h h' ⊢
 have hb0:Below w.heap.size w ((w.alloc (Obj.cells #[.slice A n c,.int .i64 on,.int .i64 off,.int .i64 fl] 144)).alloc (Obj.cells #[.slice A' n' c',.int .i64 on',.int .i64 off',.int .i64 fl'] 144)):=
  ((ai _ _).alloc (aA _) _).alloc (by simp) _
 have HD:∀b:Bool,((need=need'∧on=on'∧off=off'∧fl=fl')↔b=true)→Hid (decide ((⟨need,on,off,fl⟩:au)=⟨need',on',off',fl'⟩)=b):=fun b hb=>af (by
  cases b
  ·exact decide_eq_false (fun e=>by injection e with e1 e2 e3 e4;exact absurd (hb.1 ⟨e1,e2,e3,e4⟩) (by simp))
  ·have:=hb.2 rfl
   exact decide_eq_true (by rw[this.1,this.2.1,this.2.2.1,this.2.2.2]))
 have HH:=af HD;have H1:=af (h.up hb0);have H2:=af (h'.up hb0);have HB0:=af hb0;clear HD hb0;go_enter Tryz.func133,Tryz.ntmps133
 go_wp2_with fail
 refine(tK A n c need A' n' c' need' _ H1.out H2.out).mono ?_
 by_cases e1:need=need'
 case neg=>
  have HV:=HH.out false ⟨fun h=>absurd h.1 e1,fun h=>by cases h⟩;rw[decide_eq_false e1];rintro e w1 ⟨rfl,q,rfl⟩;go_wp2;go_ret;exact⟨aY HV.out.symm,below_drewN HB0.out _⟩
 rw[decide_eq_true e1];rintro e w1 ⟨rfl,q,rfl⟩
 by_cases e2:on=on'
 case neg=>
  have HV:=HH.out false ⟨fun h=>absurd h.2.1 e2,fun h=>by cases h⟩;have hne:(on == on')=false:=by simpa using e2
  clear e1 e2;go_wp2;go_ret;exact⟨aY HV.out.symm,below_drewN HB0.out _⟩
 by_cases e3:off=off'
 case neg=>
  have HV:=HH.out false ⟨fun h=>absurd h.2.2.1 e3,fun h=>by cases h⟩;have hne:(off == off')=false:=by simpa using e3
  subst e2;clear e1 e3;go_wp2;go_ret;exact⟨aY HV.out.symm,below_drewN HB0.out _⟩
 by_cases e4:fl=fl'
 case neg=>
  have HV:=HH.out false ⟨fun h=>absurd h.2.2.2 e4,fun h=>by cases h⟩;have hne:(fl == fl')=false:=by simpa using e4
  subst e2;subst e3;clear e1 e4;go_wp2;go_ret;exact⟨aY HV.out.symm,below_drewN HB0.out _⟩
 have HV:=HH.out true ⟨fun _=>rfl,fun _=>⟨e1,e2,e3,e4⟩⟩;subst e2;subst e3;subst e4;clear e1;go_wp2;go_ret;exact⟨aY HV.out.symm,below_drewN HB0.out _⟩
theorem JX (v:Value) (t:aB) (v':Value) (t':aB) (w:World) (h:oW w w.heap.size v t) (h':oW w w.heap.size v' t'):
  Calls Tryz.prog 64 #[v,v'] w fun e w'=>e= .returned (.bool (decide (t=t')))∧Below w.heap.size w w':=by
 obtain⟨A,n,c,B,m,b,rfl,hg,hgs,hds,hst⟩:=h;obtain⟨A',n',c',B',m',b',rfl,hg',hgs',hds',hst'⟩:=h'
 have S0:St w ((w.alloc (Obj.cells #[.int .i64 t.start,.slice A n c,.slice B m b] 26)).alloc (Obj.cells #[.int .i64 t'.start,.slice A' n' c',.slice B' m' b'] 26)) [ah w.heap.size 26 #[.int .i64 t.start,.slice A n c,.slice B m b],ah (w.heap.size+1) 26 #[.int .i64 t'.start,.slice A' n' c',.slice B' m' b']]:=by
  have:=((St.refl w).alloc #[.int .i64 t.start,.slice A n c,.slice B m b] 26).alloc #[.int .i64 t'.start,.slice A' n' c',.slice B' m' b'] 26
  simpa using this
 have HH:Hid (∀b:Bool,((t.start=t'.start∧t.goal=t'.goal∧t.ay=t'.ay)↔b=true)→Bx (decide (t=t')=b)):=af fun b hb=>Bx.mk (by
  cases b
  ·exact decide_eq_false (fun e=>absurd (hb.1 (by rw[e];exact⟨rfl,rfl,rfl⟩)) (by simp))
  ·have:=hb.2 rfl
   exact decide_eq_true (aB.ext' this.1 this.2.1 this.2.2))
 have H1:=af (hg.up S0.below);have H2:=af (hg'.up S0.below);have H3:=af hds;have H4:=af hds';have HL:=af hds.len;have Qy:=af hds'.len;have hsm:=hds.small;have aS:=af S0;clear S0
 by_cases e1:t.start=t'.start
 case neg=>
  have HV:=HH.out false ⟨fun h=>absurd h.1 e1,fun h=>by cases h⟩;have hne:(t.start != t'.start)=true:=by rw[bne_iff_ne];exact e1
  clear e1;go_enter Tryz.func64,Tryz.ntmps64;go_wp2;go_ret;exact⟨aY HV.out.symm,aS.out.below⟩
 have E1:=af e1;have hne:(t.start != t'.start)=false:=by rw[e1];simp
 clear e1;go_enter Tryz.func64,Tryz.ntmps64
 go_wp2_with fail
 refine(tK A n c t.goal A' n' c' t'.goal _ H1.out H2.out).mono ?_
 by_cases e2:t.goal=t'.goal
 case neg=>
  have HV:=HH.out false ⟨fun h=>absurd h.2.1 e2,fun h=>by cases h⟩;rw[decide_eq_false e2];rintro e w1 ⟨rfl,q,rfl⟩;clear e2;go_wp2;go_ret;exact⟨aY HV.out.symm,below_drewN aS.out.below _⟩
 rw[decide_eq_true e2];rintro e w1 ⟨rfl,q,rfl⟩;have E2:=af e2;clear e2
 by_cases e3:m=m'
 case neg=>
  have HV:=HH.out false ⟨fun h=>absurd (by rw[←HL.out,←Qy.out,h.2.2]) e3,fun h=>by cases h⟩;have af2:((m:Int) != (m':Int))=true:=by rw[bne_iff_ne];omega
  clear e3;go_wp2;go_ret;exact⟨aY HV.out.symm,below_drewN aS.out.below _⟩
 subst e3;have bf:=af (aS.out.drewN q);go_wp2
 go_loopw [5] (fun i wr=>∃k:Nat,k≤m∧i= .int .i64 k∧Hid (∀j,j<k→t.ay[j]? =t'.ay[j]?)∧St w wr [ah w.heap.size 26 #[.int .i64 t.start,.slice A n c,.slice B m b],ah (w.heap.size+1) 26 #[.int .i64 t'.start,.slice A' n' c',.slice B' m b']]) (fun i _=>m-(intOf i).toNat)
 case atStart=>exact⟨0,by omega,rfl,af (by omega),bf.out⟩
 case round=>
  clear bf;obtain⟨k,hk,rfl,hpre,S⟩:=hrel;have HS:=af S;have q0:=S.cells 0 rfl;have q1:=S.cells 1 rfl;clear S
  by_cases hlt:k<m
  ·obtain⟨b1,off,d,rfl,hb,hd,hda⟩:=H3.out.get hlt;obtain⟨b2,off',d',rfl,hb',hd',ac9⟩:=H4.out.get hlt;obtain⟨An,nn,cn,p0,p1,p2,p3,dU,hnn,-⟩:=(hda.keep hb (aF HS.out.below));obtain⟨An',nn',cn',p0',p1',p2',p3',aa5,af4,-⟩:=(ac9.keep hb' (aF HS.out.below));have HD:=af hd;have wF:=af hd';clear hd hda hd' ac9;have hsz:=HS.out.size;go_wp2
   go_still_tail 10,(by kernel_rfl)
   change wpList _ _ _ _ _ wr.drew
   go_wp2_with fail
   refine(JW An nn cn d An' nn' cn' d' wr.drew ((dU.more hsz).keep (fun _ _ _=>rfl)) ((aa5.more hsz).keep (fun _ _ _=>rfl))).mono ?_
   by_cases he:d=d'
   ·rw[decide_eq_true he];rintro e w2 ⟨rfl,hb2⟩;have HS2:=af ((HS.out.drew).quiet hb2);have HE:=af he
    have HP:Hid (∀j,j<k+1→t.ay[j]? =t'.ay[j]?):=af fun j hj=>by
     rcases Nat.lt_or_ge j k with h1 | h1
     ·exact hpre.out j h1
     ·obtain rfl:j=k:=by omega
      rw[HD.out,wF.out,HE.out]
    clear he hb2;go_wp2
    go_roundw
    case rel=>exact⟨k+1,by omega,by go_num,HP,HS2.out⟩
    case measure=>simp[intOf];omega
   ·rw[decide_eq_false he];rintro e w2 ⟨rfl,hb2⟩;have HS2:=af ((HS.out.drew).quiet hb2).below
    have HV:=HH.out false ⟨fun h=>absurd (by
     have h1:=HD.out;rw[h.2.2,wF.out] at h1
     injection h1 with h1
     exact h1.symm) he,fun h=>by cases h⟩
    clear he hb2;go_wp2;go_ret;exact⟨aY HV.out.symm,HS2.out⟩
  ·have HV:=HH.out true ⟨fun _=>rfl,fun _=>⟨E1.out,E2.out,List.ext_getElem? fun j=>by
    rcases Nat.lt_or_ge j k with h1 | h1
    ·exact hpre.out j h1
    ·rw[List.getElem?_eq_none (by rw[HL.out];omega),List.getElem?_eq_none (by rw[Qy.out];omega)]⟩⟩
   go_wp2;go_ret;exact⟨aY HV.out.symm,HS.out.below⟩
theorem rU (v:Value) (b:aG) (v':Value) (b':aG) (w:World) (h:RdB w w.heap.size v b) (h':RdB w w.heap.size v' b'):
  Calls Tryz.prog 11 #[v,v'] w fun e w'=>e= .returned (.bool (decide (b=b')))∧Below w.heap.size w w':=by
 have HB:=af h;have HB':=af h';obtain⟨A,n,c,A1,n1,c1,A2,n2,c2,hv⟩:=h.form;obtain⟨B,m,d,B1,m1,d1,B2,m2,d2,hv'⟩:=h'.form;subst hv hv'
 have S0:St w ((w.alloc (Obj.cells #[.int .i64 b.order.start,.slice A n c,.slice A1 n1 c1,.slice A2 n2 c2,.int .i64 b.state] 28)).alloc (Obj.cells #[.int .i64 b'.order.start,.slice B m d,.slice B1 m1 d1,.slice B2 m2 d2,.int .i64 b'.state] 28)) [ah w.heap.size 28 #[.int .i64 b.order.start,.slice A n c,.slice A1 n1 c1,.slice A2 n2 c2,.int .i64 b.state],ah (w.heap.size+1) 28 #[.int .i64 b'.order.start,.slice B m d,.slice B1 m1 d1,.slice B2 m2 d2,.int .i64 b'.state]]:=by
  have:=((St.refl w).alloc #[.int .i64 b.order.start,.slice A n c,.slice A1 n1 c1,.slice A2 n2 c2,.int .i64 b.state] 28).alloc #[.int .i64 b'.order.start,.slice B m d,.slice B1 m1 d1,.slice B2 m2 d2,.int .i64 b'.state] 28
  simpa using this
 have aS:=af S0
 have HH:Hid (∀x:Bool,((b.order=b'.order∧b.done=b'.done∧b.state=b'.state)↔x=true)→Bx (decide (b=b')=x)):=af fun x hb=>Bx.mk (by
  cases x
  ·exact decide_eq_false (fun e=>absurd (hb.1 (by rw[e];exact⟨rfl,rfl,rfl⟩)) (by simp))
  ·have:=hb.2 rfl
   exact decide_eq_true (aG.ext' this.1 this.2.1 this.2.2))
 clear S0 h h';go_enter Tryz.func11,Tryz.ntmps11
 go_wp2_with fail
 refine(JX _ b.order _ b'.order _ ((HB.out.order).up aS.out.below) ((HB'.out.order).up aS.out.below)).mono ?_
 by_cases e1:b.order=b'.order
 case neg=>
  have HV:=HH.out false ⟨fun h=>absurd h.1 e1,fun h=>by cases h⟩;rw[decide_eq_false e1];rintro e w1 ⟨rfl,hb1⟩;have bf:=af (aS.out.quiet hb1).below;clear e1 hb1;go_wp2;go_ret;exact⟨aY HV.out.symm,bf.out⟩
 rw[decide_eq_true e1];rintro e w1 ⟨rfl,hb1⟩;have bf:=af (aS.out.quiet hb1);have q0:=bf.out.cells 0 rfl;have q1:=bf.out.cells 1 rfl;have E1:=af e1;clear e1 hb1
 go_wp2_with fail
 refine(tK A2 n2 c2 b.done B2 m2 d2 b'.done _ ((HB.out.done).1.up bf.out.below) ((HB'.out.done).1.up bf.out.below)).mono ?_
 by_cases e2:b.done=b'.done
 case neg=>
  have HV:=HH.out false ⟨fun h=>absurd h.2.1 e2,fun h=>by cases h⟩;rw[decide_eq_false e2];rintro e w2 ⟨rfl,q,rfl⟩;clear e2;go_wp2;go_ret;exact⟨aY HV.out.symm,(bf.out.drewN q).below⟩
 rw[decide_eq_true e2];rintro e w2 ⟨rfl,q,rfl⟩;have E2:=af e2;clear e2
 by_cases e3:b.state=b'.state
 ·have HV:=HH.out true ⟨fun _=>rfl,fun _=>⟨E1.out,E2.out,e3⟩⟩;have hne:(b.state == b'.state)=true:=by simpa using e3
  clear e3;go_wp2;go_ret;exact⟨aY HV.out.symm,(bf.out.drewN q).below⟩
 ·have HV:=HH.out false ⟨fun h=>absurd h.2.2 e3,fun h=>by cases h⟩;have hne:(b.state == b'.state)=false:=by simpa using e3
  clear e3;go_wp2;go_ret;exact⟨aY HV.out.symm,(bf.out.drewN q).below⟩
theorem CY (v:Value) (b:aG) (w:World) (h:RdB w w.heap.size v b):
  Calls Tryz.prog 13 #[v] w fun e w'=>e= .returned (.bool (decide (b=⟨⟨0,[],[]⟩,[],0⟩)))∧Below w.heap.size w w':=by
 have HB:=af h;obtain⟨A,n,c,A1,n1,c1,A2,n2,c2,hv⟩:=h.form;subst hv;have aS:=af ((St.refl w).alloc #[.int .i64 b.order.start,.slice A n c,.slice A1 n1 c1,.slice A2 n2 c2,.int .i64 b.state] 28);clear h;go_enter Tryz.func13,Tryz.ntmps13
 go_wp2_with fail
 refine(rU _ b _ ⟨⟨0,[],[]⟩,[],0⟩ _ (HB.out.up aS.out.below) (((St.Yx (ai _ _)).call (iw _ _ (ai _ _))).book (by simp) rfl |>.CX 0 rfl)).mono ?_;rintro e w1 ⟨rfl,hb1⟩;have bf:=af (aS.out.quiet hb1).below;go_wp2;go_ret;exact⟨rfl,bf.out⟩
end Go.Proofs.YtkmcengmglgdeaaGreatDoor
