/- A part of the proof: EndActs. -/
import Derived.Test.YtkmcengmglgdeaaGreatDoorSPlanForS
namespace Go.Proofs.YtkmcengmglgdeaaGreatDoor
set_option linter.unusedVariables false
set_option linter.unusedSimpArgs false
set_option maxRecDepth 100000
set_option maxHeartbeats 8000000
open Go.ChangeShapes Go.WideShapes Go.ChangeAt Go.RowKit
def mJ (b:aI):Bool:=decide (0<b.done.length)&&((dF b).isNone||decide (40<b.done.length+((dF b).getD []).length))
def endOf (b:aI):Int:=if mJ b then b.order.start else b.state
def iD (b:aI):List iC:=
 if aP b&&(dK b.order).isSome then(if mJ b then [⟨1,b.done.length⟩] else [])++(if aH b.order.goal (endOf b).toNat then [] else [⟨3,0⟩]) else []
theorem rW {b:aI} {r:List Int} (h:dF b=some r):r.length≤31:=by
 unfold dF at h
 split at h
 ·exact(rF h).2.2.1
 ·cases h
theorem Dj (b:aI) (h:aP b=false):iD b=[]:=by unfold iD;rw[h];rfl
theorem uI (b:aI) (h:(dK b.order).isSome=false):iD b=[]:=by unfold iD;rw[h];simp
theorem jq {b:aI} {bk ev:Bool} (h:aP b=true) (h':(dK b.order).isSome=true) (hb:mJ b=bk) (he:aH b.order.goal (if bk then b.order.start else b.state).toNat=ev):iD b=(if bk then [⟨1,b.done.length⟩] else [])++(if ev then [] else [⟨3,0⟩]):=by
 subst hb he
 unfold iD endOf
 rw[h,h'];rfl
theorem tH (b:aI):(iD b).length≤2:=by
 unfold iD
 split
 ·simp only[bK];split<;>split<;>simp
 ·simp
theorem Dk {b:aI} (h:b.done.length=0):mJ b=false:=by unfold mJ;simp[h]
theorem Dl {b:aI} (h:0<b.done.length) (hr:dF b=none):mJ b=true:=by unfold mJ;simp[h,hr]
theorem F8 {b:aI} {r:List Int} (h:0<b.done.length) (hr:dF b=some r) (hl:40<b.done.length+r.length):mJ b=true:=by unfold mJ;simp[h,hr,hl]
theorem Dn {b:aI} {r:List Int} (hr:dF b=some r) (hl:¬40<b.done.length+r.length):mJ b=false:=by unfold mJ;simp[hr];omega
theorem bH {b:aI} (h:aP b=true):aK b.order=true∧b.done.length≤40∧(0≤b.state∧b.state<32)∧aF b.order b.order.start b.done=b.state:=by
 unfold aP at h
 simp only[Bool.and_eq_true,decide_eq_true_eq,beq_iff_eq] at h;exact⟨h.1.1.1,h.1.1.2,(aU _).1 h.1.2,h.2⟩
theorem o6:tJ Tryz.prog 56 64 (.agg #[.int .i64 0,.int .i64 0]) 2 16:=⟨Tryz.underlying56,info_parts (by kernel_rfl),rfl,by omega⟩
theorem zy (w W:World) (h:Below w.heap.size w W):St w W [gK (.slice none 0 0) []]:=
 ⟨h,[[]],rfl,fun i R F hR hF=>by
  match i with
  |0=>
   injection hR with hR;injection hF with hF;subst hR hF
   exact⟨⟨World.ownsRow_nil W 0 _ 2,rfl⟩,by simp⟩
  |i+1=>simp at hR,by simp⟩
theorem St.adw (W:World) (g:Nat) (hg:g=W.heap.size):St W (W.alloc (.cells #[] 64)) [gK (.slice (some ⟨g,0,none⟩) 0 0) []]:=
 (St.yQ W g #[] 64 hg).see fun F h _=>by
  obtain⟨h1,rfl⟩:=h;exact⟨⟨by simp[dI],.inr ⟨g,0,#[],rfl,Nat.zero_le _,h1,ay _,by unfold maxLen;omega,rfl,rfl⟩⟩,rfl⟩
theorem St.xW {w W:World} {L:List dW} (h:St w W L) (i:Nat) {v:Value} {aa:List iC} (hi:L[i]? =some (gK v aa)):W.ownsRow 0 64 2 v aa.length (Go.Proofs.YtkmcengmglgdeaaGreatDoor.ints (dI aa)):=by
 obtain⟨F,h1,-⟩:=h.get i hi;exact h1.1
theorem St.xX {w W W':World} {L:List dW} (h:St w W L) (i:Nat) {v v':Value} {aa bs:List iC} {n:Nat} (hi:L[i]? =some (gK v aa)) (hn:n=aa.length+bs.length) (hown:W'.ownsRow 0 64 2 v' n (Go.Proofs.YtkmcengmglgdeaaGreatDoor.ints (dI aa)++Go.Proofs.YtkmcengmglgdeaaGreatDoor.ints (dI bs)))
  (hg:W.grownBy W' v.ownBlock) (hat:v'.ownBlock=v.ownBlock∨v'.ownBlock=some W.heap.size):St w W' (L.set i (gK v' (aa++bs))):=
 h.mod i hi fun F h1 _=>⟨v'.ownBlock.toList,⟨by subst hn;rw[bK,Iu,show∀xs ys:List Int,Go.Proofs.YtkmcengmglgdeaaGreatDoor.ints (xs++ys)=Go.Proofs.YtkmcengmglgdeaaGreatDoor.ints xs++Go.Proofs.YtkmcengmglgdeaaGreatDoor.ints ys from fun xs ys=>by simp[Go.Proofs.YtkmcengmglgdeaaGreatDoor.ints]];exact hown,rfl⟩,fun b hb=>by
  rcases hat with e | e
  ·left;rw[h1.2,←e];exact hb
  ·right;rw[e] at hb;simp at hb;omega,by rw[h1.2];exact Only.nN hg⟩
theorem pU.Ur {M B:Nat} {w:World} {s:Int} {G:Option Addr} {gn gc:Nat} {y:Value} {t:aB} (h:pU M w B (.agg #[.int .i64 s,.slice G gn gc,y]) t):iO .i64 w B G gn gc t.goal:=by
 obtain⟨A,n,c,A',n',c',e,h1,h2,h3,h4⟩:=h;simp only[Value.agg.injEq,Array.mk.injEq,List.cons.injEq,Value.slice.injEq,and_true] at e;obtain⟨-,⟨rfl,rfl,rfl⟩,-⟩:=e;exact h1
theorem Hg (v:Value) (b:aI) (w:World) (h:RdB w w.heap.size v b):
  Calls Tryz.prog 48 #[v] w (Gives w id fun v=>[gK v (iD b)]):=by
 have h':=h;obtain⟨G,gn,gc,A',n',c',A2,n2,c2,hv⟩:=h.form;subst hv;have fF:=af h.done.1.len;have F7:=af (h.order.Ur);have S0:=(St.refl w).alloc #[.int .i64 b.order.start,.slice G gn gc,.slice A' n' c',.slice A2 n2 c2,.int .i64 b.state] 28;have HB:=af h';have aQ:=af S0;clear S0 h h';obtain⟨bo,hok⟩:∃x,aP b=x:=⟨_,rfl⟩;have bC:=af hok;clear hok
 cases bo with
 |false=>
  have HN:=Bx.mk (Dj b bC.out);go_enter Tryz.func48,Tryz.ntmps48
  go_wp2_with fail
  refine(cu _ b _ (HB.out.up aQ.out.below)).mono ?_;rw[bC.out];rintro e w1 ⟨rfl,hb1⟩;have XU:=af (aQ.out.quiet hb1).below;clear hb1;go_wp2;refine bodyPost_ret (v:=.slice none 0 0) (by simp[results,Tryz.results48,go_sem]) rfl ⟨.slice none 0 0,rfl,?_⟩;rw[HN.out];exact zy w _ XU.out
 |true=>
  obtain⟨hto,yS,hst,-⟩:=bH bC.out;have Dp:=af hto;have kY:n2≤40:=by rw[←fF.out];exact yS
  have HST:=af hst;clear hto yS hst;obtain⟨can,hcan⟩:∃x,(dK b.order).isSome=x:=⟨_,rfl⟩;have wV:=Bx.mk hcan;obtain⟨ro,hro⟩:∃x,dF b=x:=⟨_,rfl⟩;have Ae:=Bx.mk hro;clear hcan hro;go_enter Tryz.func48,Tryz.ntmps48
  go_wp2_with fail
  refine(cu _ b _ (HB.out.up aQ.out.below)).mono ?_;rw[bC.out];rintro e w1 ⟨rfl,hb1⟩;have bG:=af (aQ.out.quiet hb1);have q1:=bG.out.cells 0 rfl;clear hb1
  go_wp2_with fail
  refine(rM _ b.order _ ((HB.out.order).up bG.out.below)).mono ?_;rw[wV.out];rintro e w2 ⟨v2,rfl,s2⟩;have HS2:Hid (St w w2 [ah w.heap.size 28 #[.int .i64 b.order.start,.slice G gn gc,.slice A' n' c',.slice A2 n2 c2,.int .i64 b.state]]):=af ((bG.out.call s2).pick [0] (by decide) rfl rfl);have q2:=HS2.out.cells 0 rfl;clear s2 q1
  cases can with
  |false=>
   have HN:=Bx.mk (uI b wV.out);go_wp2;refine bodyPost_ret (v:=.slice none 0 0) (by simp[results,Tryz.results48,go_sem]) rfl ⟨.slice none 0 0,rfl,?_⟩;rw[HN.out];exact zy w _ HS2.out.below
  |true=>
   go_wp2_with fail
   refine(rE _ b _ (HB.out.up HS2.out.below)).mono ?_;rw[Ae.out];rintro e w3 ⟨v3,rfl,s3⟩;obtain⟨A3,c3,hv3,-⟩:=s3.xq 0 rfl;subst hv3;have dV:Hid (St w w3 [ah w.heap.size 28 #[.int .i64 b.order.start,.slice G gn gc,.slice A' n' c',.slice A2 n2 c2,.int .i64 b.state],gK (.slice none 0 0) []]):=af (((HS2.out.call s3).pick [0] (by decide) rfl rfl).call (zy w3 w3 (ai _ _)));have q3:=dV.out.cells 0 rfl;clear s3 q2
   rcases Nat.eq_zero_or_pos n2 with hn0 | hn0
   ·have lq:Bx (mJ b=false):=Bx.mk (Dk (by rw[fF.out,hn0]))
    cases ro with
    |none=>
     simp only[Option.isSome_none,Option.getD_none,List.length_nil]
     go_wp2_with fail
     refine(jL G gn gc b.order.goal b.state _ (F7.out.up dV.out.below)).mono ?_;have X6:iK b.order.goal b.state=aH b.order.goal (b.state).toNat:=by unfold iK;rw[(aJ _ Dp.out).2.1,(aU _).2 HST.out];rfl
     obtain⟨ev,hev⟩:∃x,aH b.order.goal (b.state).toNat=x:=⟨_,rfl⟩;rw[X6,hev];have jH:=Bx.mk (jq (bk:=false) (ev:=ev) bC.out wV.out lq.out hev);rintro e WC ⟨rfl,X7⟩;have Us:Hid (St w WC [ah w.heap.size 28 #[.int .i64 b.order.start,.slice G gn gc,.slice A' n' c',.slice A2 n2 c2,.int .i64 b.state],gK (.slice none 0 0) []]):=af (dV.out.quiet X7);clear X6 hev X7
     cases ev with
     |true=>
      go_wp2;refine bodyPost_ret (v:=.slice none 0 0) (by simp[results,Tryz.results48,go_sem]) rfl ⟨.slice none 0 0,rfl,?_⟩;rw[jH.out];exact Us.out.pick [1] (by decide) rfl rfl
     |false=>
      have Zk:Hid (∀Iw NI,NI.ownsRow 0 64 2 Iw 1 (ints (dI [])++ints (dI [⟨3,0⟩]))→((WC).alloc (.cells #[.int .i64 3,.int .i64 0] 64)).grownBy NI (Value.slice none 0 0).ownBlock→(Iw.ownBlock=(Value.slice none 0 0).ownBlock∨Iw.ownBlock=some ((WC).alloc (.cells #[.int .i64 3,.int .i64 0] 64)).heap.size)→
       St w NI [ah w.heap.size 28 #[.int .i64 b.order.start,.slice G gn gc,.slice A' n' c',.slice A2 n2 c2,.int .i64 b.state],gK Iw [⟨3,0⟩]]):=af fun Iw NI h1 h2 h3=>St.xX (v:=.slice none 0 0) (aa:=[]) (bs:=[⟨3,0⟩]) ((Us.out.alloc #[.int .i64 3,.int .i64 0] 64).pick [0,1] (by decide) rfl rfl) 1 rfl rfl h1 h2 h3
      have Zl:=af ((Us.out.xW 1 rfl))
      go_wp2_with (at_builtin;refine dX o6 rfl (.tmp 60) (.tmp 62) rfl 0 (.slice none 0 0) 0 (ints (dI [])) rfl (Zl.out.alloc _) _ _ 1 1 [.int .i64 3,.int .i64 0] rfl (bQ.new (WC) [.int .i64 3,.int .i64 0] 64 2 1 rfl (by unfold maxLen;omega)) (by simp[Value.oneCell']) (by omega) (by omega) (Nat.zero_le _) ?_;intro Iw NI Pm X8 Ut;have X9:=af (Zk.out Iw NI Pm X8 Ut);have afl:∀j,NI.cell? ⟨w.heap.size,j,none⟩=_:=X9.out.cells 0 rfl;clear Pm X8 Ut)
      go_wp2;refine bodyPost_ret (v:=Iw) (by simp[results,Tryz.results48,go_sem]) rfl ⟨Iw,rfl,?_⟩;rw[jH.out];exact X9.out.pick [1] (by decide) rfl rfl
    |some r=>
     have Zm:=rW Ae.out;simp only[Option.isSome_some,Option.getD_some]
     go_wp2_with fail
     refine(jL G gn gc b.order.goal b.state _ (F7.out.up dV.out.below)).mono ?_;have Ya:iK b.order.goal b.state=aH b.order.goal (b.state).toNat:=by unfold iK;rw[(aJ _ Dp.out).2.1,(aU _).2 HST.out];rfl
     obtain⟨ev,hev⟩:∃x,aH b.order.goal (b.state).toNat=x:=⟨_,rfl⟩;rw[Ya,hev];have jH:=Bx.mk (jq (bk:=false) (ev:=ev) bC.out wV.out lq.out hev);rintro e WE ⟨rfl,Yb⟩;have Uu:Hid (St w WE [ah w.heap.size 28 #[.int .i64 b.order.start,.slice G gn gc,.slice A' n' c',.slice A2 n2 c2,.int .i64 b.state],gK (.slice none 0 0) []]):=af (dV.out.quiet Yb);clear Ya hev Yb
     cases ev with
     |true=>
      go_wp2;refine bodyPost_ret (v:=.slice none 0 0) (by simp[results,Tryz.results48,go_sem]) rfl ⟨.slice none 0 0,rfl,?_⟩;rw[jH.out];exact Uu.out.pick [1] (by decide) rfl rfl
     |false=>
      have Zn:Hid (∀Iy NJ,NJ.ownsRow 0 64 2 Iy 1 (ints (dI [])++ints (dI [⟨3,0⟩]))→((WE).alloc (.cells #[.int .i64 3,.int .i64 0] 64)).grownBy NJ (Value.slice none 0 0).ownBlock→(Iy.ownBlock=(Value.slice none 0 0).ownBlock∨Iy.ownBlock=some ((WE).alloc (.cells #[.int .i64 3,.int .i64 0] 64)).heap.size)→
       St w NJ [ah w.heap.size 28 #[.int .i64 b.order.start,.slice G gn gc,.slice A' n' c',.slice A2 n2 c2,.int .i64 b.state],gK Iy [⟨3,0⟩]]):=af fun Iy NJ h1 h2 h3=>St.xX (v:=.slice none 0 0) (aa:=[]) (bs:=[⟨3,0⟩]) ((Uu.out.alloc #[.int .i64 3,.int .i64 0] 64).pick [0,1] (by decide) rfl rfl) 1 rfl rfl h1 h2 h3
      have Zo:=af ((Uu.out.xW 1 rfl))
      go_wp2_with (at_builtin;refine dX o6 rfl (.tmp 60) (.tmp 62) rfl 0 (.slice none 0 0) 0 (ints (dI [])) rfl (Zo.out.alloc _) _ _ 1 1 [.int .i64 3,.int .i64 0] rfl (bQ.new (WE) [.int .i64 3,.int .i64 0] 64 2 1 rfl (by unfold maxLen;omega)) (by simp[Value.oneCell']) (by omega) (by omega) (Nat.zero_le _) ?_;intro Iy NJ Pn Yc Uw;have Yd:=af (Zn.out Iy NJ Pn Yc Uw);have afm:∀j,NJ.cell? ⟨w.heap.size,j,none⟩=_:=Yd.out.cells 0 rfl;clear Pn Yc Uw)
      go_wp2;refine bodyPost_ret (v:=Iy) (by simp[results,Tryz.results48,go_sem]) rfl ⟨Iy,rfl,?_⟩;rw[jH.out];exact Yd.out.pick [1] (by decide) rfl rfl
   ·cases ro with
    |none=>
     have lq:Bx (mJ b=true):=Bx.mk (Dl (by rw[fF.out];exact hn0) Ae.out);simp only[Option.isSome_none,Option.getD_none,List.length_nil]
     have aa9:Hid (∀Po Zp,Zp.ownsRow 0 64 2 Po 1 (ints (dI [])++ints (dI [⟨1,n2⟩]))→((w3).alloc (.cells #[.int .i64 1,.int .i64 n2] 64)).grownBy Zp (Value.slice none 0 0).ownBlock→(Po.ownBlock=(Value.slice none 0 0).ownBlock∨Po.ownBlock=some ((w3).alloc (.cells #[.int .i64 1,.int .i64 n2] 64)).heap.size)→
      St w Zp [ah w.heap.size 28 #[.int .i64 b.order.start,.slice G gn gc,.slice A' n' c',.slice A2 n2 c2,.int .i64 b.state],gK Po [⟨1,n2⟩]]):=af fun Po Zp h1 h2 h3=>St.xX (v:=.slice none 0 0) (aa:=[]) (bs:=[⟨1,n2⟩]) ((dV.out.alloc #[.int .i64 1,.int .i64 n2] 64).pick [0,1] (by decide) rfl rfl) 1 rfl rfl h1 h2 h3
     have abb:=af ((dV.out.xW 1 rfl))
     go_wp2_with (at_builtin;refine dX o6 rfl (.tmp 44) (.tmp 49) rfl 0 (.slice none 0 0) 0 (ints (dI [])) rfl (abb.out.alloc _) _ _ 1 1 [.int .i64 1,.int .i64 n2] rfl (bQ.new (w3) [.int .i64 1,.int .i64 n2] 64 2 1 rfl (by unfold maxLen;omega)) (by simp[Value.oneCell']) (by omega) (by omega) (Nat.zero_le _) ?_;intro Po Zp Ux abd Ye;have NK:=af (aa9.out Po Zp Ux abd Ye);have q4c:∀j,Zp.cell? ⟨w.heap.size,j,none⟩=_:=NK.out.cells 0 rfl;clear Ux abd Ye)
     go_wp2_with fail
     refine(jL G gn gc b.order.goal b.order.start _ (F7.out.up NK.out.below)).mono ?_;have Yf:iK b.order.goal b.order.start=aH b.order.goal (b.order.start).toNat:=by unfold iK;rw[(aJ _ Dp.out).2.1,(aU _).2 (aJ _ Dp.out).1];rfl
     obtain⟨ev,hev⟩:∃x,aH b.order.goal (b.order.start).toNat=x:=⟨_,rfl⟩;rw[Yf,hev];have jH:=Bx.mk (jq (bk:=true) (ev:=ev) bC.out wV.out lq.out hev);rw[fF.out] at jH;rintro e WG ⟨rfl,Yg⟩;have Uy:Hid (St w WG [ah w.heap.size 28 #[.int .i64 b.order.start,.slice G gn gc,.slice A' n' c',.slice A2 n2 c2,.int .i64 b.state],gK Po [⟨1,n2⟩]]):=af (NK.out.quiet Yg);clear Yf hev Yg
     cases ev with
     |true=>
      go_wp2;refine bodyPost_ret (v:=Po) (by simp[results,Tryz.results48,go_sem]) rfl ⟨Po,rfl,?_⟩;rw[jH.out];exact Uy.out.pick [1] (by decide) rfl rfl
     |false=>
      have Zq:Hid (∀Iz NM,NM.ownsRow 0 64 2 Iz 2 (ints (dI [⟨1,n2⟩])++ints (dI [⟨3,0⟩]))→((WG).alloc (.cells #[.int .i64 3,.int .i64 0] 64)).grownBy NM (Po).ownBlock→(Iz.ownBlock=(Po).ownBlock∨Iz.ownBlock=some ((WG).alloc (.cells #[.int .i64 3,.int .i64 0] 64)).heap.size)→
       St w NM [ah w.heap.size 28 #[.int .i64 b.order.start,.slice G gn gc,.slice A' n' c',.slice A2 n2 c2,.int .i64 b.state],gK Iz [⟨1,n2⟩,⟨3,0⟩]]):=af fun Iz NM h1 h2 h3=>St.xX (v:=Po) (aa:=[⟨1,n2⟩]) (bs:=[⟨3,0⟩]) ((Uy.out.alloc #[.int .i64 3,.int .i64 0] 64).pick [0,1] (by decide) rfl rfl) 1 rfl rfl h1 h2 h3
      have Zr:=af ((Uy.out.xW 1 rfl))
      go_wp2_with (at_builtin;refine dX o6 rfl (.tmp 60) (.tmp 62) rfl 0 (Po) 1 (ints (dI [⟨1,n2⟩])) rfl (Zr.out.alloc _) _ _ 1 1 [.int .i64 3,.int .i64 0] rfl (bQ.new (WG) [.int .i64 3,.int .i64 0] 64 2 1 rfl (by unfold maxLen;omega)) (by simp[Value.oneCell']) (by omega) (by omega) (Nat.zero_le _) ?_;intro Iz NM Pq Yh Uz;have Yi:=af (Zq.out Iz NM Pq Yh Uz);have afn:∀j,NM.cell? ⟨w.heap.size,j,none⟩=_:=Yi.out.cells 0 rfl;clear Pq Yh Uz)
      go_wp2;refine bodyPost_ret (v:=Iz) (by simp[results,Tryz.results48,go_sem]) rfl ⟨Iz,rfl,?_⟩;rw[jH.out];exact Yi.out.pick [1] (by decide) rfl rfl
    |some r=>
     have Zm:=rW Ae.out;simp only[Option.isSome_some,Option.getD_some]
     by_cases tu:40<n2+r.length
     ·have lq:Bx (mJ b=true):=Bx.mk (F8 (by rw[fF.out];exact hn0) Ae.out (by rw[fF.out];exact tu))
      have abe:Hid (∀Pv Zt,Zt.ownsRow 0 64 2 Pv 1 (ints (dI [])++ints (dI [⟨1,n2⟩]))→((w3).alloc (.cells #[.int .i64 1,.int .i64 n2] 64)).grownBy Zt (Value.slice none 0 0).ownBlock→(Pv.ownBlock=(Value.slice none 0 0).ownBlock∨Pv.ownBlock=some ((w3).alloc (.cells #[.int .i64 1,.int .i64 n2] 64)).heap.size)→
       St w Zt [ah w.heap.size 28 #[.int .i64 b.order.start,.slice G gn gc,.slice A' n' c',.slice A2 n2 c2,.int .i64 b.state],gK Pv [⟨1,n2⟩]]):=af fun Pv Zt h1 h2 h3=>St.xX (v:=.slice none 0 0) (aa:=[]) (bs:=[⟨1,n2⟩]) ((dV.out.alloc #[.int .i64 1,.int .i64 n2] 64).pick [0,1] (by decide) rfl rfl) 1 rfl rfl h1 h2 h3
      have abf:=af ((dV.out.xW 1 rfl))
      go_wp2_with (at_builtin;refine dX o6 rfl (.tmp 44) (.tmp 49) rfl 0 (.slice none 0 0) 0 (ints (dI [])) rfl (abf.out.alloc _) _ _ 1 1 [.int .i64 1,.int .i64 n2] rfl (bQ.new (w3) [.int .i64 1,.int .i64 n2] 64 2 1 rfl (by unfold maxLen;omega)) (by simp[Value.oneCell']) (by omega) (by omega) (Nat.zero_le _) ?_;intro Pv Zt UA abg Yj;have NP:=af (abe.out Pv Zt UA abg Yj);have q4d:∀j,Zt.cell? ⟨w.heap.size,j,none⟩=_:=NP.out.cells 0 rfl;clear UA abg Yj)
      go_wp2_with fail
      refine(jL G gn gc b.order.goal b.order.start _ (F7.out.up NP.out.below)).mono ?_;have Yk:iK b.order.goal b.order.start=aH b.order.goal (b.order.start).toNat:=by unfold iK;rw[(aJ _ Dp.out).2.1,(aU _).2 (aJ _ Dp.out).1];rfl
      obtain⟨ev,hev⟩:∃x,aH b.order.goal (b.order.start).toNat=x:=⟨_,rfl⟩;rw[Yk,hev];have jH:=Bx.mk (jq (bk:=true) (ev:=ev) bC.out wV.out lq.out hev);rw[fF.out] at jH;rintro e WH ⟨rfl,Yl⟩;have UB:Hid (St w WH [ah w.heap.size 28 #[.int .i64 b.order.start,.slice G gn gc,.slice A' n' c',.slice A2 n2 c2,.int .i64 b.state],gK Pv [⟨1,n2⟩]]):=af (NP.out.quiet Yl);clear Yk hev Yl
      cases ev with
      |true=>
       go_wp2;refine bodyPost_ret (v:=Pv) (by simp[results,Tryz.results48,go_sem]) rfl ⟨Pv,rfl,?_⟩;rw[jH.out];exact UB.out.pick [1] (by decide) rfl rfl
      |false=>
       have Zu:Hid (∀IA NQ,NQ.ownsRow 0 64 2 IA 2 (ints (dI [⟨1,n2⟩])++ints (dI [⟨3,0⟩]))→((WH).alloc (.cells #[.int .i64 3,.int .i64 0] 64)).grownBy NQ (Pv).ownBlock→(IA.ownBlock=(Pv).ownBlock∨IA.ownBlock=some ((WH).alloc (.cells #[.int .i64 3,.int .i64 0] 64)).heap.size)→
        St w NQ [ah w.heap.size 28 #[.int .i64 b.order.start,.slice G gn gc,.slice A' n' c',.slice A2 n2 c2,.int .i64 b.state],gK IA [⟨1,n2⟩,⟨3,0⟩]]):=af fun IA NQ h1 h2 h3=>St.xX (v:=Pv) (aa:=[⟨1,n2⟩]) (bs:=[⟨3,0⟩]) ((UB.out.alloc #[.int .i64 3,.int .i64 0] 64).pick [0,1] (by decide) rfl rfl) 1 rfl rfl h1 h2 h3
       have Zv:=af ((UB.out.xW 1 rfl))
       go_wp2_with (at_builtin;refine dX o6 rfl (.tmp 60) (.tmp 62) rfl 0 (Pv) 1 (ints (dI [⟨1,n2⟩])) rfl (Zv.out.alloc _) _ _ 1 1 [.int .i64 3,.int .i64 0] rfl (bQ.new (WH) [.int .i64 3,.int .i64 0] 64 2 1 rfl (by unfold maxLen;omega)) (by simp[Value.oneCell']) (by omega) (by omega) (Nat.zero_le _) ?_;intro IA NQ Px Ym UC;have Yn:=af (Zu.out IA NQ Px Ym UC);have afo:∀j,NQ.cell? ⟨w.heap.size,j,none⟩=_:=Yn.out.cells 0 rfl;clear Px Ym UC)
       go_wp2;refine bodyPost_ret (v:=IA) (by simp[results,Tryz.results48,go_sem]) rfl ⟨IA,rfl,?_⟩;rw[jH.out];exact Yn.out.pick [1] (by decide) rfl rfl
     ·have lq:Bx (mJ b=false):=Bx.mk (Dn Ae.out (by rw[fF.out];exact tu))
      go_wp2_with fail
      refine(jL G gn gc b.order.goal b.state _ (F7.out.up dV.out.below)).mono ?_;have Yo:iK b.order.goal b.state=aH b.order.goal (b.state).toNat:=by unfold iK;rw[(aJ _ Dp.out).2.1,(aU _).2 HST.out];rfl
      obtain⟨ev,hev⟩:∃x,aH b.order.goal (b.state).toNat=x:=⟨_,rfl⟩;rw[Yo,hev];have jH:=Bx.mk (jq (bk:=false) (ev:=ev) bC.out wV.out lq.out hev);rintro e WI ⟨rfl,Yp⟩;have UD:Hid (St w WI [ah w.heap.size 28 #[.int .i64 b.order.start,.slice G gn gc,.slice A' n' c',.slice A2 n2 c2,.int .i64 b.state],gK (.slice none 0 0) []]):=af (dV.out.quiet Yp);clear Yo hev Yp
      cases ev with
      |true=>
       go_wp2;refine bodyPost_ret (v:=.slice none 0 0) (by simp[results,Tryz.results48,go_sem]) rfl ⟨.slice none 0 0,rfl,?_⟩;rw[jH.out];exact UD.out.pick [1] (by decide) rfl rfl
      |false=>
       have Zw:Hid (∀IB NR,NR.ownsRow 0 64 2 IB 1 (ints (dI [])++ints (dI [⟨3,0⟩]))→((WI).alloc (.cells #[.int .i64 3,.int .i64 0] 64)).grownBy NR (Value.slice none 0 0).ownBlock→(IB.ownBlock=(Value.slice none 0 0).ownBlock∨IB.ownBlock=some ((WI).alloc (.cells #[.int .i64 3,.int .i64 0] 64)).heap.size)→
        St w NR [ah w.heap.size 28 #[.int .i64 b.order.start,.slice G gn gc,.slice A' n' c',.slice A2 n2 c2,.int .i64 b.state],gK IB [⟨3,0⟩]]):=af fun IB NR h1 h2 h3=>St.xX (v:=.slice none 0 0) (aa:=[]) (bs:=[⟨3,0⟩]) ((UD.out.alloc #[.int .i64 3,.int .i64 0] 64).pick [0,1] (by decide) rfl rfl) 1 rfl rfl h1 h2 h3
       have Zx:=af ((UD.out.xW 1 rfl))
       go_wp2_with (at_builtin;refine dX o6 rfl (.tmp 60) (.tmp 62) rfl 0 (.slice none 0 0) 0 (ints (dI [])) rfl (Zx.out.alloc _) _ _ 1 1 [.int .i64 3,.int .i64 0] rfl (bQ.new (WI) [.int .i64 3,.int .i64 0] 64 2 1 rfl (by unfold maxLen;omega)) (by simp[Value.oneCell']) (by omega) (by omega) (Nat.zero_le _) ?_;intro IB NR Py Yq UE;have Yr:=af (Zw.out IB NR Py Yq UE);have afp:∀j,NR.cell? ⟨w.heap.size,j,none⟩=_:=Yr.out.cells 0 rfl;clear Py Yq UE)
       go_wp2;refine bodyPost_ret (v:=IB) (by simp[results,Tryz.results48,go_sem]) rfl ⟨IB,rfl,?_⟩;rw[jH.out];exact Yr.out.pick [1] (by decide) rfl rfl
theorem IC (v:Value) (b:aI) (w:World) (h:RdB w w.heap.size v b):
  Calls Tryz.prog 54 #[v] w (Gives w id fun v=>[gK v (iD b)]):=by
 have h':=h;obtain⟨G,gn,gc,A',n',c',A2,n2,c2,hv⟩:=h.form;subst hv;have fF:=af h.done.1.len;have F7:=af (h.order.Ur);have S0:=(St.refl w).alloc #[.int .i64 b.order.start,.slice G gn gc,.slice A' n' c',.slice A2 n2 c2,.int .i64 b.state] 28;have HB:=af h';have aQ:=af S0;clear S0 h h';obtain⟨bo,hok⟩:∃x,aP b=x:=⟨_,rfl⟩;have bC:=af hok;clear hok;have J6:Hid (St w ((w.alloc (.cells #[.int .i64 b.order.start,.slice G gn gc,.slice A' n' c',.slice A2 n2 c2,.int .i64 b.state] 28)).alloc (.cells #[] 64)) [ah w.heap.size 28 #[.int .i64 b.order.start,.slice G gn gc,.slice A' n' c',.slice A2 n2 c2,.int .i64 b.state],gK (.slice (some ⟨w.heap.size+1,0,none⟩) 0 0) []]):=af (aQ.out.call (St.adw _ _ (by simp)));clear aQ;have aQ:=J6;clear J6
 cases bo with
 |false=>
  have HN:=Bx.mk (Dj b bC.out);go_enter Tryz.func54,Tryz.ntmps54;have q0:=aQ.out.cells 0 rfl
  go_wp2_with fail
  refine(dM _ b _ (HB.out.up aQ.out.below)).mono ?_;rw[bC.out];rintro e w1 ⟨rfl,hb1⟩;have bG:=af (aQ.out.quiet hb1);clear hb1 q0;go_wp2;refine bodyPost_ret (v:=.slice (some ⟨w.heap.size+1,0,none⟩) 0 0) (by simp[results,Tryz.results54,go_sem]) rfl ⟨.slice (some ⟨w.heap.size+1,0,none⟩) 0 0,rfl,?_⟩;rw[HN.out];exact bG.out.pick [1] (by decide) rfl rfl
 |true=>
  obtain⟨hto,yS,hst,-⟩:=bH bC.out;have Dp:=af hto;have kY:n2≤40:=by rw[←fF.out];exact yS
  have hsn:=(aJ _ hto).1;obtain⟨s0,hs0⟩:=bI hsn.1;obtain⟨s1,hs1⟩:=bI hst.1;have lQ:s0<32:=by omega
  have HGK:=af (aJ _ hto).2.1;obtain⟨can,hcan⟩:∃x,(dK b.order).isSome=x:=⟨_,rfl⟩;have wV:=Bx.mk hcan;obtain⟨ro,hro⟩:∃x,dF b=x:=⟨_,rfl⟩;have Ae:=Bx.mk hro;have Il:=Bx.mk hs0;have HSY:=Bx.mk hs1;rw[hs0,hs1] at aQ ⊢
  rw[hs0,hs1] at HB;clear hcan hro hs0 hs1 hto yS hst hsn;go_enter Tryz.func54,Tryz.ntmps54;have q0:=aQ.out.cells 0 rfl
  go_wp2_with fail
  refine(dM _ b _ (HB.out.up aQ.out.below)).mono ?_;rw[bC.out];rintro e w1 ⟨rfl,hb1⟩;have bG:=af (aQ.out.quiet hb1);have q1:=bG.out.cells 0 rfl;clear hb1 q0
  go_wp2_with fail
  refine(rP _ b.order _ ((HB.out.order).up bG.out.below)).mono ?_;rw[wV.out];rintro e w2 ⟨v2,rfl,s2⟩;have HS2:Hid (St w w2 [ah w.heap.size 28 #[.int .i64 (s0:Int),.slice G gn gc,.slice A' n' c',.slice A2 n2 c2,.int .i64 (s1:Int)],gK (.slice (some ⟨w.heap.size+1,0,none⟩) 0 0) []]):=af ((bG.out.call s2).pick [0,1] (by decide) rfl rfl);have q2:=HS2.out.cells 0 rfl;clear s2 q1
  go_wp2_with fail
  refine(rO _ b _ (HB.out.up HS2.out.below)).mono ?_;rw[Ae.out];rintro e w3 ⟨v3,rfl,s3⟩;obtain⟨A3,c3,hv3,-⟩:=s3.xq 0 rfl;subst hv3;have dV:Hid (St w w3 [ah w.heap.size 28 #[.int .i64 (s0:Int),.slice G gn gc,.slice A' n' c',.slice A2 n2 c2,.int .i64 (s1:Int)],gK (.slice (some ⟨w.heap.size+1,0,none⟩) 0 0) []]):=af ((HS2.out.call s3).pick [0,1] (by decide) rfl rfl);have q3:=dV.out.cells 0 rfl;clear s3 q2
  cases can with
  |false=>
   have HN:=Bx.mk (uI b wV.out);go_wp2;refine bodyPost_ret (v:=.slice (some ⟨w.heap.size+1,0,none⟩) 0 0) (by simp[results,Tryz.results54,go_sem]) rfl ⟨.slice (some ⟨w.heap.size+1,0,none⟩) 0 0,rfl,?_⟩;rw[HN.out];exact dV.out.pick [1] (by decide) rfl rfl
  |true=>
   obtain⟨ea,hea⟩:∃x,iF b=x:=⟨_,rfl⟩;have HEA:Bx (aH b.order.goal b.state.toNat=ea):=Bx.mk (by have:=hea;unfold iF at this;rw[bC.out] at this;simpa using this)
   go_wp2_with fail
   refine(uH _ b _ (HB.out.up dV.out.below)).mono ?_;rw[hea];rintro e w4 ⟨rfl,hb4⟩;have iM:Hid (St w w4 [ah w.heap.size 28 #[.int .i64 (s0:Int),.slice G gn gc,.slice A' n' c',.slice A2 n2 c2,.int .i64 (s1:Int)],gK (.slice (some ⟨w.heap.size+1,0,none⟩) 0 0) []]):=af (dV.out.quiet hb4);have q4:=iM.out.cells 0 rfl;clear hb4 q3 hea
   rcases Nat.eq_zero_or_pos n2 with hn0 | hn0
   ·have lq:Bx (mJ b=false):=Bx.mk (Dk (by rw[fF.out,hn0]))
    cases ro with
    |none=>
     simp only[Option.isSome_none,Option.getD_none,List.length_nil];have jH:=Bx.mk (jq (bk:=false) (ev:=ea) bC.out wV.out lq.out (by simpa using HEA.out))
     cases ea with
     |true=>
      go_wp2;refine bodyPost_ret (v:=.slice (some ⟨w.heap.size+1,0,none⟩) 0 0) (by simp[results,Tryz.results54,go_sem]) rfl ⟨.slice (some ⟨w.heap.size+1,0,none⟩) 0 0,rfl,?_⟩;rw[jH.out];exact iM.out.pick [1] (by decide) rfl rfl
     |false=>
      have abh:Hid (∀WJ Zy,Zy.ownsRow 0 64 2 WJ 1 (ints (dI [])++ints (dI [⟨3,0⟩]))→((w4).alloc (.cells #[.int .i64 3,.int .i64 0] 64)).grownBy Zy (Value.slice (some ⟨w.heap.size+1,0,none⟩) 0 0).ownBlock→(WJ.ownBlock=(Value.slice (some ⟨w.heap.size+1,0,none⟩) 0 0).ownBlock∨WJ.ownBlock=some ((w4).alloc (.cells #[.int .i64 3,.int .i64 0] 64)).heap.size)→
       St w Zy [ah w.heap.size 28 #[.int .i64 (s0:Int),.slice G gn gc,.slice A' n' c',.slice A2 n2 c2,.int .i64 (s1:Int)],gK WJ [⟨3,0⟩]]):=af fun WJ Zy h1 h2 h3=>St.xX (v:=.slice (some ⟨w.heap.size+1,0,none⟩) 0 0) (aa:=[]) (bs:=[⟨3,0⟩]) ((iM.out.alloc #[.int .i64 3,.int .i64 0] 64).pick [0,1] (by decide) rfl rfl) 1 rfl rfl h1 h2 h3
      have abj:=af ((iM.out.xW 1 rfl))
      go_wp2_with (at_builtin;refine dX o6 rfl (.tmp 63) (.tmp 65) rfl 0 (.slice (some ⟨w.heap.size+1,0,none⟩) 0 0) 0 (ints (dI [])) rfl (abj.out.alloc _) _ _ 1 1 [.int .i64 3,.int .i64 0] rfl (bQ.new (w4) [.int .i64 3,.int .i64 0] 64 2 1 rfl (by unfold maxLen;omega)) (by simp[Value.oneCell']) (by omega) (by omega) (Nat.zero_le _) ?_;intro WJ Zy UF abk Yt;have abl:=af (abh.out WJ Zy UF abk Yt);have q9a:∀j,Zy.cell? ⟨w.heap.size,j,none⟩=_:=abl.out.cells 0 rfl;clear UF abk Yt)
      go_wp2;refine bodyPost_ret (v:=WJ) (by simp[results,Tryz.results54,go_sem]) rfl ⟨WJ,rfl,?_⟩;rw[jH.out];exact abl.out.pick [1] (by decide) rfl rfl
    |some r=>
     have Zm:=rW Ae.out;simp only[Option.isSome_some,Option.getD_some];have jH:=Bx.mk (jq (bk:=false) (ev:=ea) bC.out wV.out lq.out (by simpa using HEA.out))
     cases ea with
     |true=>
      go_wp2;refine bodyPost_ret (v:=.slice (some ⟨w.heap.size+1,0,none⟩) 0 0) (by simp[results,Tryz.results54,go_sem]) rfl ⟨.slice (some ⟨w.heap.size+1,0,none⟩) 0 0,rfl,?_⟩;rw[jH.out];exact iM.out.pick [1] (by decide) rfl rfl
     |false=>
      have abm:Hid (∀WL Zz,Zz.ownsRow 0 64 2 WL 1 (ints (dI [])++ints (dI [⟨3,0⟩]))→((w4).alloc (.cells #[.int .i64 3,.int .i64 0] 64)).grownBy Zz (Value.slice (some ⟨w.heap.size+1,0,none⟩) 0 0).ownBlock→(WL.ownBlock=(Value.slice (some ⟨w.heap.size+1,0,none⟩) 0 0).ownBlock∨WL.ownBlock=some ((w4).alloc (.cells #[.int .i64 3,.int .i64 0] 64)).heap.size)→
       St w Zz [ah w.heap.size 28 #[.int .i64 (s0:Int),.slice G gn gc,.slice A' n' c',.slice A2 n2 c2,.int .i64 (s1:Int)],gK WL [⟨3,0⟩]]):=af fun WL Zz h1 h2 h3=>St.xX (v:=.slice (some ⟨w.heap.size+1,0,none⟩) 0 0) (aa:=[]) (bs:=[⟨3,0⟩]) ((iM.out.alloc #[.int .i64 3,.int .i64 0] 64).pick [0,1] (by decide) rfl rfl) 1 rfl rfl h1 h2 h3
      have abn:=af ((iM.out.xW 1 rfl))
      go_wp2_with (at_builtin;refine dX o6 rfl (.tmp 63) (.tmp 65) rfl 0 (.slice (some ⟨w.heap.size+1,0,none⟩) 0 0) 0 (ints (dI [])) rfl (abn.out.alloc _) _ _ 1 1 [.int .i64 3,.int .i64 0] rfl (bQ.new (w4) [.int .i64 3,.int .i64 0] 64 2 1 rfl (by unfold maxLen;omega)) (by simp[Value.oneCell']) (by omega) (by omega) (Nat.zero_le _) ?_;intro WL Zz UG abo Yu;have abp:=af (abm.out WL Zz UG abo Yu);have q9b:∀j,Zz.cell? ⟨w.heap.size,j,none⟩=_:=abp.out.cells 0 rfl;clear UG abo Yu)
      go_wp2;refine bodyPost_ret (v:=WL) (by simp[results,Tryz.results54,go_sem]) rfl ⟨WL,rfl,?_⟩;rw[jH.out];exact abp.out.pick [1] (by decide) rfl rfl
   ·cases ro with
    |none=>
     have lq:Bx (mJ b=true):=Bx.mk (Dl (by rw[fF.out];exact hn0) Ae.out);simp only[Option.isSome_none,Option.getD_none,List.length_nil]
     have abq:Hid (∀Pz ZA,ZA.ownsRow 0 64 2 Pz 1 (ints (dI [])++ints (dI [⟨1,n2⟩]))→((w4).alloc (.cells #[.int .i64 1,.int .i64 n2] 64)).grownBy ZA (Value.slice (some ⟨w.heap.size+1,0,none⟩) 0 0).ownBlock→(Pz.ownBlock=(Value.slice (some ⟨w.heap.size+1,0,none⟩) 0 0).ownBlock∨Pz.ownBlock=some ((w4).alloc (.cells #[.int .i64 1,.int .i64 n2] 64)).heap.size)→
      St w ZA [ah w.heap.size 28 #[.int .i64 (s0:Int),.slice G gn gc,.slice A' n' c',.slice A2 n2 c2,.int .i64 (s1:Int)],gK Pz [⟨1,n2⟩]]):=af fun Pz ZA h1 h2 h3=>St.xX (v:=.slice (some ⟨w.heap.size+1,0,none⟩) 0 0) (aa:=[]) (bs:=[⟨1,n2⟩]) ((iM.out.alloc #[.int .i64 1,.int .i64 n2] 64).pick [0,1] (by decide) rfl rfl) 1 rfl rfl h1 h2 h3
     have abr:=af ((iM.out.xW 1 rfl))
     go_wp2_with (at_builtin;refine dX o6 rfl (.tmp 47) (.tmp 52) rfl 0 (.slice (some ⟨w.heap.size+1,0,none⟩) 0 0) 0 (ints (dI [])) rfl (abr.out.alloc _) _ _ 1 1 [.int .i64 1,.int .i64 n2] rfl (bQ.new (w4) [.int .i64 1,.int .i64 n2] 64 2 1 rfl (by unfold maxLen;omega)) (by simp[Value.oneCell']) (by omega) (by omega) (Nat.zero_le _) ?_;intro Pz ZA UH abt Yv;have NK:=af (abq.out Pz ZA UH abt Yv);have q5c:∀j,ZA.cell? ⟨w.heap.size,j,none⟩=_:=NK.out.cells 0 rfl;clear UH abt Yv)
     go_wp2_with fail
     refine(kE G gn gc b.order.goal s0 _ (F7.out.up NK.out.below) HGK.out lQ).mono ?_;obtain⟨ev,hev⟩:∃x,aH b.order.goal s0=x:=⟨_,rfl⟩;rw[hev];have jH:=Bx.mk (jq (bk:=true) (ev:=ev) bC.out wV.out lq.out (by simp only[if_true];rw[Il.out,dD];exact hev));rw[fF.out] at jH;rintro e w6c ⟨rfl,abu⟩;have ZB:Hid (St w w6c [ah w.heap.size 28 #[.int .i64 (s0:Int),.slice G gn gc,.slice A' n' c',.slice A2 n2 c2,.int .i64 (s1:Int)],gK Pz [⟨1,n2⟩]]):=af (NK.out.quiet abu);clear hev abu
     cases ev with
     |true=>
      go_wp2;refine bodyPost_ret (v:=Pz) (by simp[results,Tryz.results54,go_sem]) rfl ⟨Pz,rfl,?_⟩;rw[jH.out];exact ZB.out.pick [1] (by decide) rfl rfl
     |false=>
      have abv:Hid (∀WM ZC,ZC.ownsRow 0 64 2 WM 2 (ints (dI [⟨1,n2⟩])++ints (dI [⟨3,0⟩]))→((w6c).alloc (.cells #[.int .i64 3,.int .i64 0] 64)).grownBy ZC (Pz).ownBlock→(WM.ownBlock=(Pz).ownBlock∨WM.ownBlock=some ((w6c).alloc (.cells #[.int .i64 3,.int .i64 0] 64)).heap.size)→
       St w ZC [ah w.heap.size 28 #[.int .i64 (s0:Int),.slice G gn gc,.slice A' n' c',.slice A2 n2 c2,.int .i64 (s1:Int)],gK WM [⟨1,n2⟩,⟨3,0⟩]]):=af fun WM ZC h1 h2 h3=>St.xX (v:=Pz) (aa:=[⟨1,n2⟩]) (bs:=[⟨3,0⟩]) ((ZB.out.alloc #[.int .i64 3,.int .i64 0] 64).pick [0,1] (by decide) rfl rfl) 1 rfl rfl h1 h2 h3
      have abw:=af ((ZB.out.xW 1 rfl))
      go_wp2_with (at_builtin;refine dX o6 rfl (.tmp 63) (.tmp 65) rfl 0 (Pz) 1 (ints (dI [⟨1,n2⟩])) rfl (abw.out.alloc _) _ _ 1 1 [.int .i64 3,.int .i64 0] rfl (bQ.new (w6c) [.int .i64 3,.int .i64 0] 64 2 1 rfl (by unfold maxLen;omega)) (by simp[Value.oneCell']) (by omega) (by omega) (Nat.zero_le _) ?_;intro WM ZC UI abx Yw;have aby:=af (abv.out WM ZC UI abx Yw);have q9c:∀j,ZC.cell? ⟨w.heap.size,j,none⟩=_:=aby.out.cells 0 rfl;clear UI abx Yw)
      go_wp2;refine bodyPost_ret (v:=WM) (by simp[results,Tryz.results54,go_sem]) rfl ⟨WM,rfl,?_⟩;rw[jH.out];exact aby.out.pick [1] (by decide) rfl rfl
    |some r=>
     have Zm:=rW Ae.out;simp only[Option.isSome_some,Option.getD_some]
     by_cases tu:40<n2+r.length
     ·have lq:Bx (mJ b=true):=Bx.mk (F8 (by rw[fF.out];exact hn0) Ae.out (by rw[fF.out];exact tu))
      have abz:Hid (∀PD ZE,ZE.ownsRow 0 64 2 PD 1 (ints (dI [])++ints (dI [⟨1,n2⟩]))→((w4).alloc (.cells #[.int .i64 1,.int .i64 n2] 64)).grownBy ZE (Value.slice (some ⟨w.heap.size+1,0,none⟩) 0 0).ownBlock→(PD.ownBlock=(Value.slice (some ⟨w.heap.size+1,0,none⟩) 0 0).ownBlock∨PD.ownBlock=some ((w4).alloc (.cells #[.int .i64 1,.int .i64 n2] 64)).heap.size)→
       St w ZE [ah w.heap.size 28 #[.int .i64 (s0:Int),.slice G gn gc,.slice A' n' c',.slice A2 n2 c2,.int .i64 (s1:Int)],gK PD [⟨1,n2⟩]]):=af fun PD ZE h1 h2 h3=>St.xX (v:=.slice (some ⟨w.heap.size+1,0,none⟩) 0 0) (aa:=[]) (bs:=[⟨1,n2⟩]) ((iM.out.alloc #[.int .i64 1,.int .i64 n2] 64).pick [0,1] (by decide) rfl rfl) 1 rfl rfl h1 h2 h3
      have abA:=af ((iM.out.xW 1 rfl))
      go_wp2_with (at_builtin;refine dX o6 rfl (.tmp 47) (.tmp 52) rfl 0 (.slice (some ⟨w.heap.size+1,0,none⟩) 0 0) 0 (ints (dI [])) rfl (abA.out.alloc _) _ _ 1 1 [.int .i64 1,.int .i64 n2] rfl (bQ.new (w4) [.int .i64 1,.int .i64 n2] 64 2 1 rfl (by unfold maxLen;omega)) (by simp[Value.oneCell']) (by omega) (by omega) (Nat.zero_le _) ?_;intro PD ZE UJ abB Yx;have NP:=af (abz.out PD ZE UJ abB Yx);have q5d:∀j,ZE.cell? ⟨w.heap.size,j,none⟩=_:=NP.out.cells 0 rfl;clear UJ abB Yx)
      go_wp2_with fail
      refine(kE G gn gc b.order.goal s0 _ (F7.out.up NP.out.below) HGK.out lQ).mono ?_;obtain⟨ev,hev⟩:∃x,aH b.order.goal s0=x:=⟨_,rfl⟩;rw[hev];have jH:=Bx.mk (jq (bk:=true) (ev:=ev) bC.out wV.out lq.out (by simp only[if_true];rw[Il.out,dD];exact hev));rw[fF.out] at jH;rintro e w6d ⟨rfl,abC⟩;have ZF:Hid (St w w6d [ah w.heap.size 28 #[.int .i64 (s0:Int),.slice G gn gc,.slice A' n' c',.slice A2 n2 c2,.int .i64 (s1:Int)],gK PD [⟨1,n2⟩]]):=af (NP.out.quiet abC);clear hev abC
      cases ev with
      |true=>
       go_wp2;refine bodyPost_ret (v:=PD) (by simp[results,Tryz.results54,go_sem]) rfl ⟨PD,rfl,?_⟩;rw[jH.out];exact ZF.out.pick [1] (by decide) rfl rfl
      |false=>
       have abD:Hid (∀WN ZG,ZG.ownsRow 0 64 2 WN 2 (ints (dI [⟨1,n2⟩])++ints (dI [⟨3,0⟩]))→((w6d).alloc (.cells #[.int .i64 3,.int .i64 0] 64)).grownBy ZG (PD).ownBlock→(WN.ownBlock=(PD).ownBlock∨WN.ownBlock=some ((w6d).alloc (.cells #[.int .i64 3,.int .i64 0] 64)).heap.size)→
        St w ZG [ah w.heap.size 28 #[.int .i64 (s0:Int),.slice G gn gc,.slice A' n' c',.slice A2 n2 c2,.int .i64 (s1:Int)],gK WN [⟨1,n2⟩,⟨3,0⟩]]):=af fun WN ZG h1 h2 h3=>St.xX (v:=PD) (aa:=[⟨1,n2⟩]) (bs:=[⟨3,0⟩]) ((ZF.out.alloc #[.int .i64 3,.int .i64 0] 64).pick [0,1] (by decide) rfl rfl) 1 rfl rfl h1 h2 h3
       have abE:=af ((ZF.out.xW 1 rfl))
       go_wp2_with (at_builtin;refine dX o6 rfl (.tmp 63) (.tmp 65) rfl 0 (PD) 1 (ints (dI [⟨1,n2⟩])) rfl (abE.out.alloc _) _ _ 1 1 [.int .i64 3,.int .i64 0] rfl (bQ.new (w6d) [.int .i64 3,.int .i64 0] 64 2 1 rfl (by unfold maxLen;omega)) (by simp[Value.oneCell']) (by omega) (by omega) (Nat.zero_le _) ?_;intro WN ZG UK abG Yy;have abH:=af (abD.out WN ZG UK abG Yy);have q9d:∀j,ZG.cell? ⟨w.heap.size,j,none⟩=_:=abH.out.cells 0 rfl;clear UK abG Yy)
       go_wp2;refine bodyPost_ret (v:=WN) (by simp[results,Tryz.results54,go_sem]) rfl ⟨WN,rfl,?_⟩;rw[jH.out];exact abH.out.pick [1] (by decide) rfl rfl
     ·have lq:Bx (mJ b=false):=Bx.mk (Dn Ae.out (by rw[fF.out];exact tu));have jH:=Bx.mk (jq (bk:=false) (ev:=ea) bC.out wV.out lq.out (by simpa using HEA.out))
      cases ea with
      |true=>
       go_wp2;refine bodyPost_ret (v:=.slice (some ⟨w.heap.size+1,0,none⟩) 0 0) (by simp[results,Tryz.results54,go_sem]) rfl ⟨.slice (some ⟨w.heap.size+1,0,none⟩) 0 0,rfl,?_⟩;rw[jH.out];exact iM.out.pick [1] (by decide) rfl rfl
      |false=>
       have abI:Hid (∀WO ZH,ZH.ownsRow 0 64 2 WO 1 (ints (dI [])++ints (dI [⟨3,0⟩]))→((w4).alloc (.cells #[.int .i64 3,.int .i64 0] 64)).grownBy ZH (Value.slice (some ⟨w.heap.size+1,0,none⟩) 0 0).ownBlock→(WO.ownBlock=(Value.slice (some ⟨w.heap.size+1,0,none⟩) 0 0).ownBlock∨WO.ownBlock=some ((w4).alloc (.cells #[.int .i64 3,.int .i64 0] 64)).heap.size)→
        St w ZH [ah w.heap.size 28 #[.int .i64 (s0:Int),.slice G gn gc,.slice A' n' c',.slice A2 n2 c2,.int .i64 (s1:Int)],gK WO [⟨3,0⟩]]):=af fun WO ZH h1 h2 h3=>St.xX (v:=.slice (some ⟨w.heap.size+1,0,none⟩) 0 0) (aa:=[]) (bs:=[⟨3,0⟩]) ((iM.out.alloc #[.int .i64 3,.int .i64 0] 64).pick [0,1] (by decide) rfl rfl) 1 rfl rfl h1 h2 h3
       have abJ:=af ((iM.out.xW 1 rfl))
       go_wp2_with (at_builtin;refine dX o6 rfl (.tmp 63) (.tmp 65) rfl 0 (.slice (some ⟨w.heap.size+1,0,none⟩) 0 0) 0 (ints (dI [])) rfl (abJ.out.alloc _) _ _ 1 1 [.int .i64 3,.int .i64 0] rfl (bQ.new (w4) [.int .i64 3,.int .i64 0] 64 2 1 rfl (by unfold maxLen;omega)) (by simp[Value.oneCell']) (by omega) (by omega) (Nat.zero_le _) ?_;intro WO ZH UL abK Yz;have abL:=af (abI.out WO ZH UL abK Yz);have q9f:∀j,ZH.cell? ⟨w.heap.size,j,none⟩=_:=abL.out.cells 0 rfl;clear UL abK Yz)
       go_wp2;refine bodyPost_ret (v:=WO) (by simp[results,Tryz.results54,go_sem]) rfl ⟨WO,rfl,?_⟩;rw[jH.out];exact abL.out.pick [1] (by decide) rfl rfl
end Go.Proofs.YtkmcengmglgdeaaGreatDoor
