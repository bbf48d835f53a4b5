/- A part of the proof: EndActs. -/
import Derived.Test.YtkmcengmglgdeaaGreatDoorSPlanForS
namespace Go.Proofs.YtkmcengmglgdeaaGreatDoor
set_option linter.unusedVariables false
set_option linter.unusedSimpArgs false
set_option maxRecDepth 100000
set_option maxHeartbeats 8000000
open Go.ChangeShapes Go.WideShapes Go.ChangeAt Go.RowKit
def lu (b:aG):Bool:=decide (0<b.done.length)&&((dB b).isNone||decide (40<b.done.length+((dB b).getD []).length))
def endOf (b:aG):Int:=if lu b then b.order.start else b.state
def gZ (b:aG):List iP:=
 if aN b&&(dG b.order).isSome then(if lu b then [⟨1,b.done.length⟩] else [])++(if aH b.order.goal (endOf b).toNat then [] else [⟨3,0⟩]) else []
theorem sV {b:aG} {r:List Int} (h:dB b=some r):r.length≤31:=by
 unfold dB at h
 split at h
 ·exact(sK h).2.2.1
 ·cases h
theorem D9 (b:aG) (h:aN b=false):gZ b=[]:=by unfold gZ;rw[h];rfl
theorem uV (b:aG) (h:(dG b.order).isSome=false):gZ b=[]:=by unfold gZ;rw[h];simp
theorem ig {b:aG} {bk ev:Bool} (h:aN b=true) (h':(dG b.order).isSome=true) (hb:lu b=bk) (he:aH b.order.goal (if bk then b.order.start else b.state).toNat=ev):gZ b=(if bk then [⟨1,b.done.length⟩] else [])++(if ev then [] else [⟨3,0⟩]):=by
 subst hb he
 unfold gZ endOf
 rw[h,h'];rfl
theorem qK (b:aG):(gZ b).length≤2:=by
 unfold gZ
 split
 ·simp only[bQ];split<;>split<;>simp
 ·simp
theorem Ea {b:aG} (h:b.done.length=0):lu b=false:=by unfold lu;simp[h]
theorem Eb {b:aG} (h:0<b.done.length) (hr:dB b=none):lu b=true:=by unfold lu;simp[h,hr]
theorem G7 {b:aG} {r:List Int} (h:0<b.done.length) (hr:dB b=some r) (hl:40<b.done.length+r.length):lu b=true:=by unfold lu;simp[h,hr,hl]
theorem Ec {b:aG} {r:List Int} (hr:dB b=some r) (hl:¬40<b.done.length+r.length):lu b=false:=by unfold lu;simp[hr];omega
theorem bF {b:aG} (h:aN b=true):aK b.order=true∧b.done.length≤40∧(0≤b.state∧b.state<32)∧aC b.order b.order.start b.done=b.state:=by
 unfold aN at h
 simp only[Bool.and_eq_true,decide_eq_true_eq,beq_iff_eq] at h;exact⟨h.1.1.1,h.1.1.2,(aV _).1 h.1.2,h.2⟩
theorem qi:qE Tryz.prog 56 64 (.agg #[.int .i64 0,.int .i64 0]) 2 16:=⟨Tryz.underlying56,info_parts (by kernel_rfl),rfl,by omega⟩
theorem zX (w W:World) (h:Below w.heap.size w W):St w W [iG (.slice none 0 0) []]:=
 ⟨h,[[]],rfl,fun i R F hR hF=>by
  match i with
  |0=>
   injection hR with hR;injection hF with hF;subst hR hF
   exact⟨⟨World.ownsRow_nil W 0 _ 2,rfl⟩,by simp⟩
  |i+1=>simp at hR,by simp⟩
theorem St.adJ (W:World) (g:Nat) (hg:g=W.heap.size):St W (W.alloc (.cells #[] 64)) [iG (.slice (some ⟨g,0,none⟩) 0 0) []]:=
 (St.zU W g #[] 64 hg).see fun F h _=>by
  obtain⟨h1,rfl⟩:=h;exact⟨⟨by simp[dV],.inr ⟨g,0,#[],rfl,Nat.zero_le _,h1,aA _,by unfold maxLen;omega,rfl,rfl⟩⟩,rfl⟩
theorem St.yK {w W:World} {L:List dh} (h:St w W L) (i:Nat) {v:Value} {aa:List iP} (hi:L[i]? =some (iG v aa)):W.ownsRow 0 64 2 v aa.length (Go.Proofs.YtkmcengmglgdeaaGreatDoor.ints (dV aa)):=by
 obtain⟨F,h1,-⟩:=h.get i hi;exact h1.1
theorem St.yL {w W W':World} {L:List dh} (h:St w W L) (i:Nat) {v v':Value} {aa bs:List iP} {n:Nat} (hi:L[i]? =some (iG v aa)) (hn:n=aa.length+bs.length) (hown:W'.ownsRow 0 64 2 v' n (Go.Proofs.YtkmcengmglgdeaaGreatDoor.ints (dV aa)++Go.Proofs.YtkmcengmglgdeaaGreatDoor.ints (dV bs)))
  (hg:W.grownBy W' v.ownBlock) (hat:v'.ownBlock=v.ownBlock∨v'.ownBlock=some W.heap.size):St w W' (L.set i (iG v' (aa++bs))):=
 h.mod i hi fun F h1 _=>⟨v'.ownBlock.toList,⟨by subst hn;rw[bQ,I8,show∀xs ys:List Int,Go.Proofs.YtkmcengmglgdeaaGreatDoor.ints (xs++ys)=Go.Proofs.YtkmcengmglgdeaaGreatDoor.ints xs++Go.Proofs.YtkmcengmglgdeaaGreatDoor.ints ys from fun xs ys=>by simp[Go.Proofs.YtkmcengmglgdeaaGreatDoor.ints]];exact hown,rfl⟩,fun b hb=>by
  rcases hat with e | e
  ·left;rw[h1.2,←e];exact hb
  ·right;rw[e] at hb;simp at hb;omega,by rw[h1.2];exact Only.lJ hg⟩
theorem uz.UR {M B:Nat} {w:World} {s:Int} {G:Option Addr} {gn gc:Nat} {y:Value} {t:aB} (h:uz M w B (.agg #[.int .i64 s,.slice G gn gc,y]) t):jd .i64 w B G gn gc t.goal:=by
 obtain⟨A,n,c,A',n',c',e,h1,h2,h3,h4⟩:=h;simp only[Value.agg.injEq,Array.mk.injEq,List.cons.injEq,Value.slice.injEq,and_true] at e;obtain⟨-,⟨rfl,rfl,rfl⟩,-⟩:=e;exact h1
theorem I9 (v:Value) (b:aG) (w:World) (h:RdB w w.heap.size v b):
  Calls Tryz.prog 48 #[v] w (Gives w id fun v=>[iG v (gZ b)]):=by
 have h':=h;obtain⟨G,gn,gc,A',n',c',A2,n2,c2,hv⟩:=h.form;subst hv;have gy:=af h.done.1.len;have G6:=af (h.order.UR);have S0:=(St.refl w).alloc #[.int .i64 b.order.start,.slice G gn gc,.slice A' n' c',.slice A2 n2 c2,.int .i64 b.state] 28;have HB:=af h';have aS:=af S0;clear S0 h h';obtain⟨bo,hok⟩:∃x,aN b=x:=⟨_,rfl⟩;have bG:=af hok;clear hok
 cases bo with
 |false=>
  have HN:=Bx.mk (D9 b bG.out);go_enter Tryz.func48,Tryz.ntmps48
  go_wp2_with fail
  refine(dF _ b _ (HB.out.up aS.out.below)).mono ?_;rw[bG.out];rintro e w1 ⟨rfl,hb1⟩;have YI:=af (aS.out.quiet hb1).below;clear hb1;go_wp2;refine bodyPost_ret (v:=.slice none 0 0) (by simp[results,Tryz.results48,go_sem]) rfl ⟨.slice none 0 0,rfl,?_⟩;rw[HN.out];exact zX w _ YI.out
 |true=>
  obtain⟨hto,zM,hst,-⟩:=bF bG.out;have Ed:=af hto;have kQ:n2≤40:=by rw[←gy.out];exact zM
  have HST:=af hst;clear hto zM hst;obtain⟨can,hcan⟩:∃x,(dG b.order).isSome=x:=⟨_,rfl⟩;have xM:=Bx.mk hcan;obtain⟨ro,hro⟩:∃x,dB b=x:=⟨_,rfl⟩;have Bh:=Bx.mk hro;clear hcan hro;go_enter Tryz.func48,Tryz.ntmps48
  go_wp2_with fail
  refine(dF _ b _ (HB.out.up aS.out.below)).mono ?_;rw[bG.out];rintro e w1 ⟨rfl,hb1⟩;have bf:=af (aS.out.quiet hb1);have q1:=bf.out.cells 0 rfl;clear hb1
  go_wp2_with fail
  refine(o7 _ b.order _ ((HB.out.order).up bf.out.below)).mono ?_;rw[xM.out];rintro e w2 ⟨v2,rfl,s2⟩;have HS2:Hid (St w w2 [ah w.heap.size 28 #[.int .i64 b.order.start,.slice G gn gc,.slice A' n' c',.slice A2 n2 c2,.int .i64 b.state]]):=af ((bf.out.call s2).pick [0] (by decide) rfl rfl);have q2:=HS2.out.cells 0 rfl;clear s2 q1
  cases can with
  |false=>
   have HN:=Bx.mk (uV b xM.out);go_wp2;refine bodyPost_ret (v:=.slice none 0 0) (by simp[results,Tryz.results48,go_sem]) rfl ⟨.slice none 0 0,rfl,?_⟩;rw[HN.out];exact zX w _ HS2.out.below
  |true=>
   go_wp2_with fail
   refine(sJ _ b _ (HB.out.up HS2.out.below)).mono ?_;rw[Bh.out];rintro e w3 ⟨v3,rfl,s3⟩;obtain⟨A3,c3,hv3,-⟩:=s3.uj 0 rfl;subst hv3;have cu:Hid (St w w3 [ah w.heap.size 28 #[.int .i64 b.order.start,.slice G gn gc,.slice A' n' c',.slice A2 n2 c2,.int .i64 b.state],iG (.slice none 0 0) []]):=af (((HS2.out.call s3).pick [0] (by decide) rfl rfl).call (zX w3 w3 (ai _ _)));have q3:=cu.out.cells 0 rfl;clear s3 q2
   rcases Nat.eq_zero_or_pos n2 with hn0 | hn0
   ·have lV:Bx (lu b=false):=Bx.mk (Ea (by rw[gy.out,hn0]))
    cases ro with
    |none=>
     simp only[Option.isSome_none,Option.getD_none,List.length_nil]
     go_wp2_with fail
     refine(jV G gn gc b.order.goal b.state _ (G6.out.up cu.out.below)).mono ?_;have YQ:iU b.order.goal b.state=aH b.order.goal (b.state).toNat:=by unfold iU;rw[(aJ _ Ed.out).2.1,(aV _).2 HST.out];rfl
     obtain⟨ev,hev⟩:∃x,aH b.order.goal (b.state).toNat=x:=⟨_,rfl⟩;rw[YQ,hev];have jL:=Bx.mk (ig (bk:=false) (ev:=ev) bG.out xM.out lV.out hev);rintro e Xg ⟨rfl,YR⟩;have UU:Hid (St w Xg [ah w.heap.size 28 #[.int .i64 b.order.start,.slice G gn gc,.slice A' n' c',.slice A2 n2 c2,.int .i64 b.state],iG (.slice none 0 0) []]):=af (cu.out.quiet YR);clear YQ hev YR
     cases ev with
     |true=>
      go_wp2;refine bodyPost_ret (v:=.slice none 0 0) (by simp[results,Tryz.results48,go_sem]) rfl ⟨.slice none 0 0,rfl,?_⟩;rw[jL.out];exact UU.out.pick [1] (by decide) rfl rfl
     |false=>
      have aad:Hid (∀Ja OB,OB.ownsRow 0 64 2 Ja 1 (ints (dV [])++ints (dV [⟨3,0⟩]))→((Xg).alloc (.cells #[.int .i64 3,.int .i64 0] 64)).grownBy OB (Value.slice none 0 0).ownBlock→(Ja.ownBlock=(Value.slice none 0 0).ownBlock∨Ja.ownBlock=some ((Xg).alloc (.cells #[.int .i64 3,.int .i64 0] 64)).heap.size)→
       St w OB [ah w.heap.size 28 #[.int .i64 b.order.start,.slice G gn gc,.slice A' n' c',.slice A2 n2 c2,.int .i64 b.state],iG Ja [⟨3,0⟩]]):=af fun Ja OB h1 h2 h3=>St.yL (v:=.slice none 0 0) (aa:=[]) (bs:=[⟨3,0⟩]) ((UU.out.alloc #[.int .i64 3,.int .i64 0] 64).pick [0,1] (by decide) rfl rfl) 1 rfl rfl h1 h2 h3
      have aae:=af ((UU.out.yK 1 rfl))
      go_wp2_with (at_builtin;refine cZ qi rfl (.tmp 60) (.tmp 62) rfl 0 (.slice none 0 0) 0 (ints (dV [])) rfl (aae.out.alloc _) _ _ 1 1 [.int .i64 3,.int .i64 0] rfl (bJ.new (Xg) [.int .i64 3,.int .i64 0] 64 2 1 rfl (by unfold maxLen;omega)) (by simp[Value.oneCell']) (by omega) (by omega) (Nat.zero_le _) ?_;intro Ja OB Qm YS UW;have YT:=af (aad.out Ja OB Qm YS UW);have afb:∀j,OB.cell? ⟨w.heap.size,j,none⟩=_:=YT.out.cells 0 rfl;clear Qm YS UW)
      go_wp2;refine bodyPost_ret (v:=Ja) (by simp[results,Tryz.results48,go_sem]) rfl ⟨Ja,rfl,?_⟩;rw[jL.out];exact YT.out.pick [1] (by decide) rfl rfl
    |some r=>
     have aaf:=sV Bh.out;simp only[Option.isSome_some,Option.getD_some]
     go_wp2_with fail
     refine(jV G gn gc b.order.goal b.state _ (G6.out.up cu.out.below)).mono ?_;have YU:iU b.order.goal b.state=aH b.order.goal (b.state).toNat:=by unfold iU;rw[(aJ _ Ed.out).2.1,(aV _).2 HST.out];rfl
     obtain⟨ev,hev⟩:∃x,aH b.order.goal (b.state).toNat=x:=⟨_,rfl⟩;rw[YU,hev];have jL:=Bx.mk (ig (bk:=false) (ev:=ev) bG.out xM.out lV.out hev);rintro e Xh ⟨rfl,YV⟩;have UX:Hid (St w Xh [ah w.heap.size 28 #[.int .i64 b.order.start,.slice G gn gc,.slice A' n' c',.slice A2 n2 c2,.int .i64 b.state],iG (.slice none 0 0) []]):=af (cu.out.quiet YV);clear YU hev YV
     cases ev with
     |true=>
      go_wp2;refine bodyPost_ret (v:=.slice none 0 0) (by simp[results,Tryz.results48,go_sem]) rfl ⟨.slice none 0 0,rfl,?_⟩;rw[jL.out];exact UX.out.pick [1] (by decide) rfl rfl
     |false=>
      have aag:Hid (∀Jb OC,OC.ownsRow 0 64 2 Jb 1 (ints (dV [])++ints (dV [⟨3,0⟩]))→((Xh).alloc (.cells #[.int .i64 3,.int .i64 0] 64)).grownBy OC (Value.slice none 0 0).ownBlock→(Jb.ownBlock=(Value.slice none 0 0).ownBlock∨Jb.ownBlock=some ((Xh).alloc (.cells #[.int .i64 3,.int .i64 0] 64)).heap.size)→
       St w OC [ah w.heap.size 28 #[.int .i64 b.order.start,.slice G gn gc,.slice A' n' c',.slice A2 n2 c2,.int .i64 b.state],iG Jb [⟨3,0⟩]]):=af fun Jb OC h1 h2 h3=>St.yL (v:=.slice none 0 0) (aa:=[]) (bs:=[⟨3,0⟩]) ((UX.out.alloc #[.int .i64 3,.int .i64 0] 64).pick [0,1] (by decide) rfl rfl) 1 rfl rfl h1 h2 h3
      have aah:=af ((UX.out.yK 1 rfl))
      go_wp2_with (at_builtin;refine cZ qi rfl (.tmp 60) (.tmp 62) rfl 0 (.slice none 0 0) 0 (ints (dV [])) rfl (aah.out.alloc _) _ _ 1 1 [.int .i64 3,.int .i64 0] rfl (bJ.new (Xh) [.int .i64 3,.int .i64 0] 64 2 1 rfl (by unfold maxLen;omega)) (by simp[Value.oneCell']) (by omega) (by omega) (Nat.zero_le _) ?_;intro Jb OC Qn YW UY;have YX:=af (aag.out Jb OC Qn YW UY);have afc:∀j,OC.cell? ⟨w.heap.size,j,none⟩=_:=YX.out.cells 0 rfl;clear Qn YW UY)
      go_wp2;refine bodyPost_ret (v:=Jb) (by simp[results,Tryz.results48,go_sem]) rfl ⟨Jb,rfl,?_⟩;rw[jL.out];exact YX.out.pick [1] (by decide) rfl rfl
   ·cases ro with
    |none=>
     have lV:Bx (lu b=true):=Bx.mk (Eb (by rw[gy.out];exact hn0) Bh.out);simp only[Option.isSome_none,Option.getD_none,List.length_nil]
     have abK:Hid (∀Qo w4c,w4c.ownsRow 0 64 2 Qo 1 (ints (dV [])++ints (dV [⟨1,n2⟩]))→((w3).alloc (.cells #[.int .i64 1,.int .i64 n2] 64)).grownBy w4c (Value.slice none 0 0).ownBlock→(Qo.ownBlock=(Value.slice none 0 0).ownBlock∨Qo.ownBlock=some ((w3).alloc (.cells #[.int .i64 1,.int .i64 n2] 64)).heap.size)→
      St w w4c [ah w.heap.size 28 #[.int .i64 b.order.start,.slice G gn gc,.slice A' n' c',.slice A2 n2 c2,.int .i64 b.state],iG Qo [⟨1,n2⟩]]):=af fun Qo w4c h1 h2 h3=>St.yL (v:=.slice none 0 0) (aa:=[]) (bs:=[⟨1,n2⟩]) ((cu.out.alloc #[.int .i64 1,.int .i64 n2] 64).pick [0,1] (by decide) rfl rfl) 1 rfl rfl h1 h2 h3
     have abL:=af ((cu.out.yK 1 rfl))
     go_wp2_with (at_builtin;refine cZ qi rfl (.tmp 44) (.tmp 49) rfl 0 (.slice none 0 0) 0 (ints (dV [])) rfl (abL.out.alloc _) _ _ 1 1 [.int .i64 1,.int .i64 n2] rfl (bJ.new (w3) [.int .i64 1,.int .i64 n2] 64 2 1 rfl (by unfold maxLen;omega)) (by simp[Value.oneCell']) (by omega) (by omega) (Nat.zero_le _) ?_;intro Qo w4c UZ abM YZ;have OD:=af (abK.out Qo w4c UZ abM YZ);have q4c:∀j,w4c.cell? ⟨w.heap.size,j,none⟩=_:=OD.out.cells 0 rfl;clear UZ abM YZ)
     go_wp2_with fail
     refine(jV G gn gc b.order.goal b.order.start _ (G6.out.up OD.out.below)).mono ?_;have Y4:iU b.order.goal b.order.start=aH b.order.goal (b.order.start).toNat:=by unfold iU;rw[(aJ _ Ed.out).2.1,(aV _).2 (aJ _ Ed.out).1];rfl
     obtain⟨ev,hev⟩:∃x,aH b.order.goal (b.order.start).toNat=x:=⟨_,rfl⟩;rw[Y4,hev];have jL:=Bx.mk (ig (bk:=true) (ev:=ev) bG.out xM.out lV.out hev);rw[gy.out] at jL;rintro e Xi ⟨rfl,Y5⟩;have U0:Hid (St w Xi [ah w.heap.size 28 #[.int .i64 b.order.start,.slice G gn gc,.slice A' n' c',.slice A2 n2 c2,.int .i64 b.state],iG Qo [⟨1,n2⟩]]):=af (OD.out.quiet Y5);clear Y4 hev Y5
     cases ev with
     |true=>
      go_wp2;refine bodyPost_ret (v:=Qo) (by simp[results,Tryz.results48,go_sem]) rfl ⟨Qo,rfl,?_⟩;rw[jL.out];exact U0.out.pick [1] (by decide) rfl rfl
     |false=>
      have aai:Hid (∀Jc OE,OE.ownsRow 0 64 2 Jc 2 (ints (dV [⟨1,n2⟩])++ints (dV [⟨3,0⟩]))→((Xi).alloc (.cells #[.int .i64 3,.int .i64 0] 64)).grownBy OE (Qo).ownBlock→(Jc.ownBlock=(Qo).ownBlock∨Jc.ownBlock=some ((Xi).alloc (.cells #[.int .i64 3,.int .i64 0] 64)).heap.size)→
       St w OE [ah w.heap.size 28 #[.int .i64 b.order.start,.slice G gn gc,.slice A' n' c',.slice A2 n2 c2,.int .i64 b.state],iG Jc [⟨1,n2⟩,⟨3,0⟩]]):=af fun Jc OE h1 h2 h3=>St.yL (v:=Qo) (aa:=[⟨1,n2⟩]) (bs:=[⟨3,0⟩]) ((U0.out.alloc #[.int .i64 3,.int .i64 0] 64).pick [0,1] (by decide) rfl rfl) 1 rfl rfl h1 h2 h3
      have aaj:=af ((U0.out.yK 1 rfl))
      go_wp2_with (at_builtin;refine cZ qi rfl (.tmp 60) (.tmp 62) rfl 0 (Qo) 1 (ints (dV [⟨1,n2⟩])) rfl (aaj.out.alloc _) _ _ 1 1 [.int .i64 3,.int .i64 0] rfl (bJ.new (Xi) [.int .i64 3,.int .i64 0] 64 2 1 rfl (by unfold maxLen;omega)) (by simp[Value.oneCell']) (by omega) (by omega) (Nat.zero_le _) ?_;intro Jc OE Qp Y6 U1;have Y7:=af (aai.out Jc OE Qp Y6 U1);have afd:∀j,OE.cell? ⟨w.heap.size,j,none⟩=_:=Y7.out.cells 0 rfl;clear Qp Y6 U1)
      go_wp2;refine bodyPost_ret (v:=Jc) (by simp[results,Tryz.results48,go_sem]) rfl ⟨Jc,rfl,?_⟩;rw[jL.out];exact Y7.out.pick [1] (by decide) rfl rfl
    |some r=>
     have aaf:=sV Bh.out;simp only[Option.isSome_some,Option.getD_some]
     by_cases uf:40<n2+r.length
     ·have lV:Bx (lu b=true):=Bx.mk (G7 (by rw[gy.out];exact hn0) Bh.out (by rw[gy.out];exact uf))
      have abN:Hid (∀Qq w4d,w4d.ownsRow 0 64 2 Qq 1 (ints (dV [])++ints (dV [⟨1,n2⟩]))→((w3).alloc (.cells #[.int .i64 1,.int .i64 n2] 64)).grownBy w4d (Value.slice none 0 0).ownBlock→(Qq.ownBlock=(Value.slice none 0 0).ownBlock∨Qq.ownBlock=some ((w3).alloc (.cells #[.int .i64 1,.int .i64 n2] 64)).heap.size)→
       St w w4d [ah w.heap.size 28 #[.int .i64 b.order.start,.slice G gn gc,.slice A' n' c',.slice A2 n2 c2,.int .i64 b.state],iG Qq [⟨1,n2⟩]]):=af fun Qq w4d h1 h2 h3=>St.yL (v:=.slice none 0 0) (aa:=[]) (bs:=[⟨1,n2⟩]) ((cu.out.alloc #[.int .i64 1,.int .i64 n2] 64).pick [0,1] (by decide) rfl rfl) 1 rfl rfl h1 h2 h3
      have abO:=af ((cu.out.yK 1 rfl))
      go_wp2_with (at_builtin;refine cZ qi rfl (.tmp 44) (.tmp 49) rfl 0 (.slice none 0 0) 0 (ints (dV [])) rfl (abO.out.alloc _) _ _ 1 1 [.int .i64 1,.int .i64 n2] rfl (bJ.new (w3) [.int .i64 1,.int .i64 n2] 64 2 1 rfl (by unfold maxLen;omega)) (by simp[Value.oneCell']) (by omega) (by omega) (Nat.zero_le _) ?_;intro Qq w4d U2 abP Y8;have OG:=af (abN.out Qq w4d U2 abP Y8);have q4d:∀j,w4d.cell? ⟨w.heap.size,j,none⟩=_:=OG.out.cells 0 rfl;clear U2 abP Y8)
      go_wp2_with fail
      refine(jV G gn gc b.order.goal b.order.start _ (G6.out.up OG.out.below)).mono ?_;have Y9:iU b.order.goal b.order.start=aH b.order.goal (b.order.start).toNat:=by unfold iU;rw[(aJ _ Ed.out).2.1,(aV _).2 (aJ _ Ed.out).1];rfl
      obtain⟨ev,hev⟩:∃x,aH b.order.goal (b.order.start).toNat=x:=⟨_,rfl⟩;rw[Y9,hev];have jL:=Bx.mk (ig (bk:=true) (ev:=ev) bG.out xM.out lV.out hev);rw[gy.out] at jL;rintro e Xj ⟨rfl,Za⟩;have U3:Hid (St w Xj [ah w.heap.size 28 #[.int .i64 b.order.start,.slice G gn gc,.slice A' n' c',.slice A2 n2 c2,.int .i64 b.state],iG Qq [⟨1,n2⟩]]):=af (OG.out.quiet Za);clear Y9 hev Za
      cases ev with
      |true=>
       go_wp2;refine bodyPost_ret (v:=Qq) (by simp[results,Tryz.results48,go_sem]) rfl ⟨Qq,rfl,?_⟩;rw[jL.out];exact U3.out.pick [1] (by decide) rfl rfl
      |false=>
       have aak:Hid (∀Jd OH,OH.ownsRow 0 64 2 Jd 2 (ints (dV [⟨1,n2⟩])++ints (dV [⟨3,0⟩]))→((Xj).alloc (.cells #[.int .i64 3,.int .i64 0] 64)).grownBy OH (Qq).ownBlock→(Jd.ownBlock=(Qq).ownBlock∨Jd.ownBlock=some ((Xj).alloc (.cells #[.int .i64 3,.int .i64 0] 64)).heap.size)→
        St w OH [ah w.heap.size 28 #[.int .i64 b.order.start,.slice G gn gc,.slice A' n' c',.slice A2 n2 c2,.int .i64 b.state],iG Jd [⟨1,n2⟩,⟨3,0⟩]]):=af fun Jd OH h1 h2 h3=>St.yL (v:=Qq) (aa:=[⟨1,n2⟩]) (bs:=[⟨3,0⟩]) ((U3.out.alloc #[.int .i64 3,.int .i64 0] 64).pick [0,1] (by decide) rfl rfl) 1 rfl rfl h1 h2 h3
       have aal:=af ((U3.out.yK 1 rfl))
       go_wp2_with (at_builtin;refine cZ qi rfl (.tmp 60) (.tmp 62) rfl 0 (Qq) 1 (ints (dV [⟨1,n2⟩])) rfl (aal.out.alloc _) _ _ 1 1 [.int .i64 3,.int .i64 0] rfl (bJ.new (Xj) [.int .i64 3,.int .i64 0] 64 2 1 rfl (by unfold maxLen;omega)) (by simp[Value.oneCell']) (by omega) (by omega) (Nat.zero_le _) ?_;intro Jd OH Qr Zb U4;have Zc:=af (aak.out Jd OH Qr Zb U4);have afe:∀j,OH.cell? ⟨w.heap.size,j,none⟩=_:=Zc.out.cells 0 rfl;clear Qr Zb U4)
       go_wp2;refine bodyPost_ret (v:=Jd) (by simp[results,Tryz.results48,go_sem]) rfl ⟨Jd,rfl,?_⟩;rw[jL.out];exact Zc.out.pick [1] (by decide) rfl rfl
     ·have lV:Bx (lu b=false):=Bx.mk (Ec Bh.out (by rw[gy.out];exact uf))
      go_wp2_with fail
      refine(jV G gn gc b.order.goal b.state _ (G6.out.up cu.out.below)).mono ?_;have Zd:iU b.order.goal b.state=aH b.order.goal (b.state).toNat:=by unfold iU;rw[(aJ _ Ed.out).2.1,(aV _).2 HST.out];rfl
      obtain⟨ev,hev⟩:∃x,aH b.order.goal (b.state).toNat=x:=⟨_,rfl⟩;rw[Zd,hev];have jL:=Bx.mk (ig (bk:=false) (ev:=ev) bG.out xM.out lV.out hev);rintro e Xk ⟨rfl,Ze⟩;have U5:Hid (St w Xk [ah w.heap.size 28 #[.int .i64 b.order.start,.slice G gn gc,.slice A' n' c',.slice A2 n2 c2,.int .i64 b.state],iG (.slice none 0 0) []]):=af (cu.out.quiet Ze);clear Zd hev Ze
      cases ev with
      |true=>
       go_wp2;refine bodyPost_ret (v:=.slice none 0 0) (by simp[results,Tryz.results48,go_sem]) rfl ⟨.slice none 0 0,rfl,?_⟩;rw[jL.out];exact U5.out.pick [1] (by decide) rfl rfl
      |false=>
       have aam:Hid (∀Je OI,OI.ownsRow 0 64 2 Je 1 (ints (dV [])++ints (dV [⟨3,0⟩]))→((Xk).alloc (.cells #[.int .i64 3,.int .i64 0] 64)).grownBy OI (Value.slice none 0 0).ownBlock→(Je.ownBlock=(Value.slice none 0 0).ownBlock∨Je.ownBlock=some ((Xk).alloc (.cells #[.int .i64 3,.int .i64 0] 64)).heap.size)→
        St w OI [ah w.heap.size 28 #[.int .i64 b.order.start,.slice G gn gc,.slice A' n' c',.slice A2 n2 c2,.int .i64 b.state],iG Je [⟨3,0⟩]]):=af fun Je OI h1 h2 h3=>St.yL (v:=.slice none 0 0) (aa:=[]) (bs:=[⟨3,0⟩]) ((U5.out.alloc #[.int .i64 3,.int .i64 0] 64).pick [0,1] (by decide) rfl rfl) 1 rfl rfl h1 h2 h3
       have aan:=af ((U5.out.yK 1 rfl))
       go_wp2_with (at_builtin;refine cZ qi rfl (.tmp 60) (.tmp 62) rfl 0 (.slice none 0 0) 0 (ints (dV [])) rfl (aan.out.alloc _) _ _ 1 1 [.int .i64 3,.int .i64 0] rfl (bJ.new (Xk) [.int .i64 3,.int .i64 0] 64 2 1 rfl (by unfold maxLen;omega)) (by simp[Value.oneCell']) (by omega) (by omega) (Nat.zero_le _) ?_;intro Je OI Qs Zf U6;have Zg:=af (aam.out Je OI Qs Zf U6);have aff:∀j,OI.cell? ⟨w.heap.size,j,none⟩=_:=Zg.out.cells 0 rfl;clear Qs Zf U6)
       go_wp2;refine bodyPost_ret (v:=Je) (by simp[results,Tryz.results48,go_sem]) rfl ⟨Je,rfl,?_⟩;rw[jL.out];exact Zg.out.pick [1] (by decide) rfl rfl
theorem Jf (v:Value) (b:aG) (w:World) (h:RdB w w.heap.size v b):
  Calls Tryz.prog 54 #[v] w (Gives w id fun v=>[iG v (gZ b)]):=by
 have h':=h;obtain⟨G,gn,gc,A',n',c',A2,n2,c2,hv⟩:=h.form;subst hv;have gy:=af h.done.1.len;have G6:=af (h.order.UR);have S0:=(St.refl w).alloc #[.int .i64 b.order.start,.slice G gn gc,.slice A' n' c',.slice A2 n2 c2,.int .i64 b.state] 28;have HB:=af h';have aS:=af S0;clear S0 h h';obtain⟨bo,hok⟩:∃x,aN b=x:=⟨_,rfl⟩;have bG:=af hok;clear hok;have Lh:Hid (St w ((w.alloc (.cells #[.int .i64 b.order.start,.slice G gn gc,.slice A' n' c',.slice A2 n2 c2,.int .i64 b.state] 28)).alloc (.cells #[] 64)) [ah w.heap.size 28 #[.int .i64 b.order.start,.slice G gn gc,.slice A' n' c',.slice A2 n2 c2,.int .i64 b.state],iG (.slice (some ⟨w.heap.size+1,0,none⟩) 0 0) []]):=af (aS.out.call (St.adJ _ _ (by simp)));clear aS;have aS:=Lh;clear Lh
 cases bo with
 |false=>
  have HN:=Bx.mk (D9 b bG.out);go_enter Tryz.func54,Tryz.ntmps54;have q0:=aS.out.cells 0 rfl
  go_wp2_with fail
  refine(dM _ b _ (HB.out.up aS.out.below)).mono ?_;rw[bG.out];rintro e w1 ⟨rfl,hb1⟩;have bf:=af (aS.out.quiet hb1);clear hb1 q0;go_wp2;refine bodyPost_ret (v:=.slice (some ⟨w.heap.size+1,0,none⟩) 0 0) (by simp[results,Tryz.results54,go_sem]) rfl ⟨.slice (some ⟨w.heap.size+1,0,none⟩) 0 0,rfl,?_⟩;rw[HN.out];exact bf.out.pick [1] (by decide) rfl rfl
 |true=>
  obtain⟨hto,zM,hst,-⟩:=bF bG.out;have Ed:=af hto;have kQ:n2≤40:=by rw[←gy.out];exact zM
  have hsn:=(aJ _ hto).1;obtain⟨s0,hs0⟩:=bC hsn.1;obtain⟨s1,hs1⟩:=bC hst.1;have mG:s0<32:=by omega
  have HGK:=af (aJ _ hto).2.1;obtain⟨can,hcan⟩:∃x,(dG b.order).isSome=x:=⟨_,rfl⟩;have xM:=Bx.mk hcan;obtain⟨ro,hro⟩:∃x,dB b=x:=⟨_,rfl⟩;have Bh:=Bx.mk hro;have Zh:=Bx.mk hs0;have HSY:=Bx.mk hs1;rw[hs0,hs1] at aS ⊢
  rw[hs0,hs1] at HB;clear hcan hro hs0 hs1 hto zM hst hsn;go_enter Tryz.func54,Tryz.ntmps54;have q0:=aS.out.cells 0 rfl
  go_wp2_with fail
  refine(dM _ b _ (HB.out.up aS.out.below)).mono ?_;rw[bG.out];rintro e w1 ⟨rfl,hb1⟩;have bf:=af (aS.out.quiet hb1);have q1:=bf.out.cells 0 rfl;clear hb1 q0
  go_wp2_with fail
  refine(sS _ b.order _ ((HB.out.order).up bf.out.below)).mono ?_;rw[xM.out];rintro e w2 ⟨v2,rfl,s2⟩;have HS2:Hid (St w w2 [ah w.heap.size 28 #[.int .i64 (s0:Int),.slice G gn gc,.slice A' n' c',.slice A2 n2 c2,.int .i64 (s1:Int)],iG (.slice (some ⟨w.heap.size+1,0,none⟩) 0 0) []]):=af ((bf.out.call s2).pick [0,1] (by decide) rfl rfl);have q2:=HS2.out.cells 0 rfl;clear s2 q1
  go_wp2_with fail
  refine(sQ _ b _ (HB.out.up HS2.out.below)).mono ?_;rw[Bh.out];rintro e w3 ⟨v3,rfl,s3⟩;obtain⟨A3,c3,hv3,-⟩:=s3.uj 0 rfl;subst hv3;have cu:Hid (St w w3 [ah w.heap.size 28 #[.int .i64 (s0:Int),.slice G gn gc,.slice A' n' c',.slice A2 n2 c2,.int .i64 (s1:Int)],iG (.slice (some ⟨w.heap.size+1,0,none⟩) 0 0) []]):=af ((HS2.out.call s3).pick [0,1] (by decide) rfl rfl);have q3:=cu.out.cells 0 rfl;clear s3 q2
  cases can with
  |false=>
   have HN:=Bx.mk (uV b xM.out);go_wp2;refine bodyPost_ret (v:=.slice (some ⟨w.heap.size+1,0,none⟩) 0 0) (by simp[results,Tryz.results54,go_sem]) rfl ⟨.slice (some ⟨w.heap.size+1,0,none⟩) 0 0,rfl,?_⟩;rw[HN.out];exact cu.out.pick [1] (by decide) rfl rfl
  |true=>
   obtain⟨ea,hea⟩:∃x,fA b=x:=⟨_,rfl⟩;have HEA:Bx (aH b.order.goal b.state.toNat=ea):=Bx.mk (by have:=hea;unfold fA at this;rw[bG.out] at this;simpa using this)
   go_wp2_with fail
   refine(uU _ b _ (HB.out.up cu.out.below)).mono ?_;rw[hea];rintro e w4 ⟨rfl,hb4⟩;have fH:Hid (St w w4 [ah w.heap.size 28 #[.int .i64 (s0:Int),.slice G gn gc,.slice A' n' c',.slice A2 n2 c2,.int .i64 (s1:Int)],iG (.slice (some ⟨w.heap.size+1,0,none⟩) 0 0) []]):=af (cu.out.quiet hb4);have q4:=fH.out.cells 0 rfl;clear hb4 q3 hea
   rcases Nat.eq_zero_or_pos n2 with hn0 | hn0
   ·have lV:Bx (lu b=false):=Bx.mk (Ea (by rw[gy.out,hn0]))
    cases ro with
    |none=>
     simp only[Option.isSome_none,Option.getD_none,List.length_nil];have jL:=Bx.mk (ig (bk:=false) (ev:=ea) bG.out xM.out lV.out (by simpa using HEA.out))
     cases ea with
     |true=>
      go_wp2;refine bodyPost_ret (v:=.slice (some ⟨w.heap.size+1,0,none⟩) 0 0) (by simp[results,Tryz.results54,go_sem]) rfl ⟨.slice (some ⟨w.heap.size+1,0,none⟩) 0 0,rfl,?_⟩;rw[jL.out];exact fH.out.pick [1] (by decide) rfl rfl
     |false=>
      have abQ:Hid (∀Xl w9a,w9a.ownsRow 0 64 2 Xl 1 (ints (dV [])++ints (dV [⟨3,0⟩]))→((w4).alloc (.cells #[.int .i64 3,.int .i64 0] 64)).grownBy w9a (Value.slice (some ⟨w.heap.size+1,0,none⟩) 0 0).ownBlock→(Xl.ownBlock=(Value.slice (some ⟨w.heap.size+1,0,none⟩) 0 0).ownBlock∨Xl.ownBlock=some ((w4).alloc (.cells #[.int .i64 3,.int .i64 0] 64)).heap.size)→
       St w w9a [ah w.heap.size 28 #[.int .i64 (s0:Int),.slice G gn gc,.slice A' n' c',.slice A2 n2 c2,.int .i64 (s1:Int)],iG Xl [⟨3,0⟩]]):=af fun Xl w9a h1 h2 h3=>St.yL (v:=.slice (some ⟨w.heap.size+1,0,none⟩) 0 0) (aa:=[]) (bs:=[⟨3,0⟩]) ((fH.out.alloc #[.int .i64 3,.int .i64 0] 64).pick [0,1] (by decide) rfl rfl) 1 rfl rfl h1 h2 h3
      have abR:=af ((fH.out.yK 1 rfl))
      go_wp2_with (at_builtin;refine cZ qi rfl (.tmp 63) (.tmp 65) rfl 0 (.slice (some ⟨w.heap.size+1,0,none⟩) 0 0) 0 (ints (dV [])) rfl (abR.out.alloc _) _ _ 1 1 [.int .i64 3,.int .i64 0] rfl (bJ.new (w4) [.int .i64 3,.int .i64 0] 64 2 1 rfl (by unfold maxLen;omega)) (by simp[Value.oneCell']) (by omega) (by omega) (Nat.zero_le _) ?_;intro Xl w9a U7 abS Zi;have abT:=af (abQ.out Xl w9a U7 abS Zi);have q9a:∀j,w9a.cell? ⟨w.heap.size,j,none⟩=_:=abT.out.cells 0 rfl;clear U7 abS Zi)
      go_wp2;refine bodyPost_ret (v:=Xl) (by simp[results,Tryz.results54,go_sem]) rfl ⟨Xl,rfl,?_⟩;rw[jL.out];exact abT.out.pick [1] (by decide) rfl rfl
    |some r=>
     have aaf:=sV Bh.out;simp only[Option.isSome_some,Option.getD_some];have jL:=Bx.mk (ig (bk:=false) (ev:=ea) bG.out xM.out lV.out (by simpa using HEA.out))
     cases ea with
     |true=>
      go_wp2;refine bodyPost_ret (v:=.slice (some ⟨w.heap.size+1,0,none⟩) 0 0) (by simp[results,Tryz.results54,go_sem]) rfl ⟨.slice (some ⟨w.heap.size+1,0,none⟩) 0 0,rfl,?_⟩;rw[jL.out];exact fH.out.pick [1] (by decide) rfl rfl
     |false=>
      have abU:Hid (∀Xm w9b,w9b.ownsRow 0 64 2 Xm 1 (ints (dV [])++ints (dV [⟨3,0⟩]))→((w4).alloc (.cells #[.int .i64 3,.int .i64 0] 64)).grownBy w9b (Value.slice (some ⟨w.heap.size+1,0,none⟩) 0 0).ownBlock→(Xm.ownBlock=(Value.slice (some ⟨w.heap.size+1,0,none⟩) 0 0).ownBlock∨Xm.ownBlock=some ((w4).alloc (.cells #[.int .i64 3,.int .i64 0] 64)).heap.size)→
       St w w9b [ah w.heap.size 28 #[.int .i64 (s0:Int),.slice G gn gc,.slice A' n' c',.slice A2 n2 c2,.int .i64 (s1:Int)],iG Xm [⟨3,0⟩]]):=af fun Xm w9b h1 h2 h3=>St.yL (v:=.slice (some ⟨w.heap.size+1,0,none⟩) 0 0) (aa:=[]) (bs:=[⟨3,0⟩]) ((fH.out.alloc #[.int .i64 3,.int .i64 0] 64).pick [0,1] (by decide) rfl rfl) 1 rfl rfl h1 h2 h3
      have abV:=af ((fH.out.yK 1 rfl))
      go_wp2_with (at_builtin;refine cZ qi rfl (.tmp 63) (.tmp 65) rfl 0 (.slice (some ⟨w.heap.size+1,0,none⟩) 0 0) 0 (ints (dV [])) rfl (abV.out.alloc _) _ _ 1 1 [.int .i64 3,.int .i64 0] rfl (bJ.new (w4) [.int .i64 3,.int .i64 0] 64 2 1 rfl (by unfold maxLen;omega)) (by simp[Value.oneCell']) (by omega) (by omega) (Nat.zero_le _) ?_;intro Xm w9b U8 abW Zj;have abX:=af (abU.out Xm w9b U8 abW Zj);have q9b:∀j,w9b.cell? ⟨w.heap.size,j,none⟩=_:=abX.out.cells 0 rfl;clear U8 abW Zj)
      go_wp2;refine bodyPost_ret (v:=Xm) (by simp[results,Tryz.results54,go_sem]) rfl ⟨Xm,rfl,?_⟩;rw[jL.out];exact abX.out.pick [1] (by decide) rfl rfl
   ·cases ro with
    |none=>
     have lV:Bx (lu b=true):=Bx.mk (Eb (by rw[gy.out];exact hn0) Bh.out);simp only[Option.isSome_none,Option.getD_none,List.length_nil]
     have abY:Hid (∀Qu w5c,w5c.ownsRow 0 64 2 Qu 1 (ints (dV [])++ints (dV [⟨1,n2⟩]))→((w4).alloc (.cells #[.int .i64 1,.int .i64 n2] 64)).grownBy w5c (Value.slice (some ⟨w.heap.size+1,0,none⟩) 0 0).ownBlock→(Qu.ownBlock=(Value.slice (some ⟨w.heap.size+1,0,none⟩) 0 0).ownBlock∨Qu.ownBlock=some ((w4).alloc (.cells #[.int .i64 1,.int .i64 n2] 64)).heap.size)→
      St w w5c [ah w.heap.size 28 #[.int .i64 (s0:Int),.slice G gn gc,.slice A' n' c',.slice A2 n2 c2,.int .i64 (s1:Int)],iG Qu [⟨1,n2⟩]]):=af fun Qu w5c h1 h2 h3=>St.yL (v:=.slice (some ⟨w.heap.size+1,0,none⟩) 0 0) (aa:=[]) (bs:=[⟨1,n2⟩]) ((fH.out.alloc #[.int .i64 1,.int .i64 n2] 64).pick [0,1] (by decide) rfl rfl) 1 rfl rfl h1 h2 h3
     have abZ:=af ((fH.out.yK 1 rfl))
     go_wp2_with (at_builtin;refine cZ qi rfl (.tmp 47) (.tmp 52) rfl 0 (.slice (some ⟨w.heap.size+1,0,none⟩) 0 0) 0 (ints (dV [])) rfl (abZ.out.alloc _) _ _ 1 1 [.int .i64 1,.int .i64 n2] rfl (bJ.new (w4) [.int .i64 1,.int .i64 n2] 64 2 1 rfl (by unfold maxLen;omega)) (by simp[Value.oneCell']) (by omega) (by omega) (Nat.zero_le _) ?_;intro Qu w5c U9 ab2 Zk;have OD:=af (abY.out Qu w5c U9 ab2 Zk);have q5c:∀j,w5c.cell? ⟨w.heap.size,j,none⟩=_:=OD.out.cells 0 rfl;clear U9 ab2 Zk)
     go_wp2_with fail
     refine(kU G gn gc b.order.goal s0 _ (G6.out.up OD.out.below) HGK.out mG).mono ?_;obtain⟨ev,hev⟩:∃x,aH b.order.goal s0=x:=⟨_,rfl⟩;rw[hev];have jL:=Bx.mk (ig (bk:=true) (ev:=ev) bG.out xM.out lV.out (by simp only[if_true];rw[Zh.out,bW];exact hev));rw[gy.out] at jL;rintro e w6c ⟨rfl,ab3⟩;have aao:Hid (St w w6c [ah w.heap.size 28 #[.int .i64 (s0:Int),.slice G gn gc,.slice A' n' c',.slice A2 n2 c2,.int .i64 (s1:Int)],iG Qu [⟨1,n2⟩]]):=af (OD.out.quiet ab3);clear hev ab3
     cases ev with
     |true=>
      go_wp2;refine bodyPost_ret (v:=Qu) (by simp[results,Tryz.results54,go_sem]) rfl ⟨Qu,rfl,?_⟩;rw[jL.out];exact aao.out.pick [1] (by decide) rfl rfl
     |false=>
      have ab4:Hid (∀Xn w9c,w9c.ownsRow 0 64 2 Xn 2 (ints (dV [⟨1,n2⟩])++ints (dV [⟨3,0⟩]))→((w6c).alloc (.cells #[.int .i64 3,.int .i64 0] 64)).grownBy w9c (Qu).ownBlock→(Xn.ownBlock=(Qu).ownBlock∨Xn.ownBlock=some ((w6c).alloc (.cells #[.int .i64 3,.int .i64 0] 64)).heap.size)→
       St w w9c [ah w.heap.size 28 #[.int .i64 (s0:Int),.slice G gn gc,.slice A' n' c',.slice A2 n2 c2,.int .i64 (s1:Int)],iG Xn [⟨1,n2⟩,⟨3,0⟩]]):=af fun Xn w9c h1 h2 h3=>St.yL (v:=Qu) (aa:=[⟨1,n2⟩]) (bs:=[⟨3,0⟩]) ((aao.out.alloc #[.int .i64 3,.int .i64 0] 64).pick [0,1] (by decide) rfl rfl) 1 rfl rfl h1 h2 h3
      have ab5:=af ((aao.out.yK 1 rfl))
      go_wp2_with (at_builtin;refine cZ qi rfl (.tmp 63) (.tmp 65) rfl 0 (Qu) 1 (ints (dV [⟨1,n2⟩])) rfl (ab5.out.alloc _) _ _ 1 1 [.int .i64 3,.int .i64 0] rfl (bJ.new (w6c) [.int .i64 3,.int .i64 0] 64 2 1 rfl (by unfold maxLen;omega)) (by simp[Value.oneCell']) (by omega) (by omega) (Nat.zero_le _) ?_;intro Xn w9c Va ab6 Zl;have ab7:=af (ab4.out Xn w9c Va ab6 Zl);have q9c:∀j,w9c.cell? ⟨w.heap.size,j,none⟩=_:=ab7.out.cells 0 rfl;clear Va ab6 Zl)
      go_wp2;refine bodyPost_ret (v:=Xn) (by simp[results,Tryz.results54,go_sem]) rfl ⟨Xn,rfl,?_⟩;rw[jL.out];exact ab7.out.pick [1] (by decide) rfl rfl
    |some r=>
     have aaf:=sV Bh.out;simp only[Option.isSome_some,Option.getD_some]
     by_cases uf:40<n2+r.length
     ·have lV:Bx (lu b=true):=Bx.mk (G7 (by rw[gy.out];exact hn0) Bh.out (by rw[gy.out];exact uf))
      have ab8:Hid (∀Qv w5d,w5d.ownsRow 0 64 2 Qv 1 (ints (dV [])++ints (dV [⟨1,n2⟩]))→((w4).alloc (.cells #[.int .i64 1,.int .i64 n2] 64)).grownBy w5d (Value.slice (some ⟨w.heap.size+1,0,none⟩) 0 0).ownBlock→(Qv.ownBlock=(Value.slice (some ⟨w.heap.size+1,0,none⟩) 0 0).ownBlock∨Qv.ownBlock=some ((w4).alloc (.cells #[.int .i64 1,.int .i64 n2] 64)).heap.size)→
       St w w5d [ah w.heap.size 28 #[.int .i64 (s0:Int),.slice G gn gc,.slice A' n' c',.slice A2 n2 c2,.int .i64 (s1:Int)],iG Qv [⟨1,n2⟩]]):=af fun Qv w5d h1 h2 h3=>St.yL (v:=.slice (some ⟨w.heap.size+1,0,none⟩) 0 0) (aa:=[]) (bs:=[⟨1,n2⟩]) ((fH.out.alloc #[.int .i64 1,.int .i64 n2] 64).pick [0,1] (by decide) rfl rfl) 1 rfl rfl h1 h2 h3
      have ab9:=af ((fH.out.yK 1 rfl))
      go_wp2_with (at_builtin;refine cZ qi rfl (.tmp 47) (.tmp 52) rfl 0 (.slice (some ⟨w.heap.size+1,0,none⟩) 0 0) 0 (ints (dV [])) rfl (ab9.out.alloc _) _ _ 1 1 [.int .i64 1,.int .i64 n2] rfl (bJ.new (w4) [.int .i64 1,.int .i64 n2] 64 2 1 rfl (by unfold maxLen;omega)) (by simp[Value.oneCell']) (by omega) (by omega) (Nat.zero_le _) ?_;intro Qv w5d Vb acd Zm;have OG:=af (ab8.out Qv w5d Vb acd Zm);have q5d:∀j,w5d.cell? ⟨w.heap.size,j,none⟩=_:=OG.out.cells 0 rfl;clear Vb acd Zm)
      go_wp2_with fail
      refine(kU G gn gc b.order.goal s0 _ (G6.out.up OG.out.below) HGK.out mG).mono ?_;obtain⟨ev,hev⟩:∃x,aH b.order.goal s0=x:=⟨_,rfl⟩;rw[hev];have jL:=Bx.mk (ig (bk:=true) (ev:=ev) bG.out xM.out lV.out (by simp only[if_true];rw[Zh.out,bW];exact hev));rw[gy.out] at jL;rintro e w6d ⟨rfl,ace⟩;have aap:Hid (St w w6d [ah w.heap.size 28 #[.int .i64 (s0:Int),.slice G gn gc,.slice A' n' c',.slice A2 n2 c2,.int .i64 (s1:Int)],iG Qv [⟨1,n2⟩]]):=af (OG.out.quiet ace);clear hev ace
      cases ev with
      |true=>
       go_wp2;refine bodyPost_ret (v:=Qv) (by simp[results,Tryz.results54,go_sem]) rfl ⟨Qv,rfl,?_⟩;rw[jL.out];exact aap.out.pick [1] (by decide) rfl rfl
      |false=>
       have acf:Hid (∀Xo w9d,w9d.ownsRow 0 64 2 Xo 2 (ints (dV [⟨1,n2⟩])++ints (dV [⟨3,0⟩]))→((w6d).alloc (.cells #[.int .i64 3,.int .i64 0] 64)).grownBy w9d (Qv).ownBlock→(Xo.ownBlock=(Qv).ownBlock∨Xo.ownBlock=some ((w6d).alloc (.cells #[.int .i64 3,.int .i64 0] 64)).heap.size)→
        St w w9d [ah w.heap.size 28 #[.int .i64 (s0:Int),.slice G gn gc,.slice A' n' c',.slice A2 n2 c2,.int .i64 (s1:Int)],iG Xo [⟨1,n2⟩,⟨3,0⟩]]):=af fun Xo w9d h1 h2 h3=>St.yL (v:=Qv) (aa:=[⟨1,n2⟩]) (bs:=[⟨3,0⟩]) ((aap.out.alloc #[.int .i64 3,.int .i64 0] 64).pick [0,1] (by decide) rfl rfl) 1 rfl rfl h1 h2 h3
       have acg:=af ((aap.out.yK 1 rfl))
       go_wp2_with (at_builtin;refine cZ qi rfl (.tmp 63) (.tmp 65) rfl 0 (Qv) 1 (ints (dV [⟨1,n2⟩])) rfl (acg.out.alloc _) _ _ 1 1 [.int .i64 3,.int .i64 0] rfl (bJ.new (w6d) [.int .i64 3,.int .i64 0] 64 2 1 rfl (by unfold maxLen;omega)) (by simp[Value.oneCell']) (by omega) (by omega) (Nat.zero_le _) ?_;intro Xo w9d Vd ach Zn;have aci:=af (acf.out Xo w9d Vd ach Zn);have q9d:∀j,w9d.cell? ⟨w.heap.size,j,none⟩=_:=aci.out.cells 0 rfl;clear Vd ach Zn)
       go_wp2;refine bodyPost_ret (v:=Xo) (by simp[results,Tryz.results54,go_sem]) rfl ⟨Xo,rfl,?_⟩;rw[jL.out];exact aci.out.pick [1] (by decide) rfl rfl
     ·have lV:Bx (lu b=false):=Bx.mk (Ec Bh.out (by rw[gy.out];exact uf));have jL:=Bx.mk (ig (bk:=false) (ev:=ea) bG.out xM.out lV.out (by simpa using HEA.out))
      cases ea with
      |true=>
       go_wp2;refine bodyPost_ret (v:=.slice (some ⟨w.heap.size+1,0,none⟩) 0 0) (by simp[results,Tryz.results54,go_sem]) rfl ⟨.slice (some ⟨w.heap.size+1,0,none⟩) 0 0,rfl,?_⟩;rw[jL.out];exact fH.out.pick [1] (by decide) rfl rfl
      |false=>
       have acj:Hid (∀Xp w9f,w9f.ownsRow 0 64 2 Xp 1 (ints (dV [])++ints (dV [⟨3,0⟩]))→((w4).alloc (.cells #[.int .i64 3,.int .i64 0] 64)).grownBy w9f (Value.slice (some ⟨w.heap.size+1,0,none⟩) 0 0).ownBlock→(Xp.ownBlock=(Value.slice (some ⟨w.heap.size+1,0,none⟩) 0 0).ownBlock∨Xp.ownBlock=some ((w4).alloc (.cells #[.int .i64 3,.int .i64 0] 64)).heap.size)→
        St w w9f [ah w.heap.size 28 #[.int .i64 (s0:Int),.slice G gn gc,.slice A' n' c',.slice A2 n2 c2,.int .i64 (s1:Int)],iG Xp [⟨3,0⟩]]):=af fun Xp w9f h1 h2 h3=>St.yL (v:=.slice (some ⟨w.heap.size+1,0,none⟩) 0 0) (aa:=[]) (bs:=[⟨3,0⟩]) ((fH.out.alloc #[.int .i64 3,.int .i64 0] 64).pick [0,1] (by decide) rfl rfl) 1 rfl rfl h1 h2 h3
       have ack:=af ((fH.out.yK 1 rfl))
       go_wp2_with (at_builtin;refine cZ qi rfl (.tmp 63) (.tmp 65) rfl 0 (.slice (some ⟨w.heap.size+1,0,none⟩) 0 0) 0 (ints (dV [])) rfl (ack.out.alloc _) _ _ 1 1 [.int .i64 3,.int .i64 0] rfl (bJ.new (w4) [.int .i64 3,.int .i64 0] 64 2 1 rfl (by unfold maxLen;omega)) (by simp[Value.oneCell']) (by omega) (by omega) (Nat.zero_le _) ?_;intro Xp w9f Ve acn Zo;have aco:=af (acj.out Xp w9f Ve acn Zo);have q9f:∀j,w9f.cell? ⟨w.heap.size,j,none⟩=_:=aco.out.cells 0 rfl;clear Ve acn Zo)
       go_wp2;refine bodyPost_ret (v:=Xp) (by simp[results,Tryz.results54,go_sem]) rfl ⟨Xp,rfl,?_⟩;rw[jL.out];exact aco.out.pick [1] (by decide) rfl rfl
end Go.Proofs.YtkmcengmglgdeaaGreatDoor
