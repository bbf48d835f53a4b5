/- A part of the proof: RFnExactBookSay. -/
import Derived.Test.YtkmcengmglgdeaaGreatDoorSStrEq
import Derived.Test.YtkmcengmglgdeaaGreatDoorSActsH
namespace Go.Proofs.YtkmcengmglgdeaaGreatDoor
set_option linter.unusedVariables false
set_option linter.unusedSimpArgs false
set_option maxRecDepth 100000
set_option maxHeartbeats 8000000
open Go.ChangeShapes Go.WideShapes Go.ChangeAt Go.RowKit
theorem lS (A:Option Addr) (n c:Nat) (ls:List (List UInt8)) (A':Option Addr) (n' c':Nat) (w:World) (h:bQ w w.heap.size 1 A n c (strs ls)) (h':bQ w w.heap.size 1 A' n' c' (strs ls)):
  Calls Tryz.prog 24 #[.slice A n c,.slice A' n' c'] w fun e w'=>e= .returned (.bool true)∧Below w.heap.size w w':=
 (Eo A n c ls A' n' c' ls w h h').mono fun _ _ ⟨he,hb⟩=>⟨by rw[he,decide_eq_true rfl],hb⟩
theorem zJ (A:Option Addr) (n c:Nat) (ls:List (List UInt8)) (left:Int) (w:World) (h:bQ w w.heap.size 1 A n c (strs ls)) (hls:∀l∈ls,l.length≤9223372036854775807) (h0:0≤left) (h1:left≤1048576):
  Calls Tryz.prog 18 #[.slice A n c,.int .i64 left] w fun e w'=>e= .returned (.int .i64 (less left (xu ls)))∧Below w.heap.size w w':=
 (Ep A n c ls left w h hls h0 h1).mono fun _ _ ⟨he,hb⟩=>⟨he,by rw[hb];exact ai _ _⟩
theorem S9 (b:aI) (ls:List (List UInt8)):AP (jG b ls).1≤AP b+40:=by
 by_cases h:aP b=true∧ls.length≤40
 ·rw[pX h.1 h.2];obtain⟨h1,h2,-⟩:=Jq ls h.1
  have:=(bH h1).2.1
  unfold AP
  rw[h2]
  omega
 ·rw[qU (by cases hb:aP b with
   |false=>exact .inl rfl
   |true=>exact .inr (fun h'=>h ⟨hb,h'⟩))]
  exact Nat.zero_le _
theorem Tc {ls:List (List UInt8)} {l:List UInt8} (h:l∈ls):l.length≤xu ls:=by
 unfold xu BG
 induction ls with
 |nil=>cases h
 |cons a ls ih=>
  rcases List.mem_cons.1 h with rfl | h
  ·simp;omega
  ·have:=ih h;simp at this ⊢;omega
theorem vK (v0:Value) (x0:aI) (A1:Option Addr) (n1 c1:Nat) (x1:List (List UInt8)) (w:World) (h0:sV maxLen w w.heap.size v0 x0) (h1:bQ w w.heap.size 1 A1 n1 c1 (strs x1)) (hw1:∀l∈x1,l.length≤9223372036854775807) (he:qV w) (hp:kR w):
  Calls Tryz.prog 4 #[v0,.slice A1 n1 c1] w fun e w'=>e= .returned (.bool true)∧Below w.heap.size w w':=by
 obtain⟨Ax0,nx0,cx0,Bx0,mx0,dx0,Cx0,lx0,fx0,hv0⟩:=h0.form;subst hv0;have YJ:St w (w.alloc (Obj.cells #[.int .i64 (x0).order.start,.slice Ax0 nx0 cx0,.slice Bx0 mx0 dx0,.slice Cx0 lx0 fx0,.int .i64 (x0).state] 42)) [ah w.heap.size 42 #[.int .i64 (x0).order.start,.slice Ax0 nx0 cx0,.slice Bx0 mx0 dx0,.slice Cx0 lx0 fx0,.int .i64 (x0).state]]:=((St.refl w).alloc #[.int .i64 (x0).order.start,.slice Ax0 nx0 cx0,.slice Bx0 mx0 dx0,.slice Cx0 lx0 fx0,.int .i64 (x0).state] 42);have q2:=YJ.cells 0 rfl;obtain⟨⟨xb,aw⟩,hxb⟩:∃y,jG x0 x1=y:=⟨_,rfl⟩;have HXB:=Bx.mk hxb;have HE:=af he;have HP:=af hp;have aex:AP xb≤AP x0+40:=by have:=S9 x0 x1;rw[hxb] at this;exact this
 have haw:aw.length≤40:=by have:=Td x0 x1;rw[hxb] at this;exact this
 have hmem:∀l∈x1,l.length≤xu x1:=fun l hl=>Tc hl
 have acB:=af hmem;clear he hp hxb hmem
 by_cases hz0:((VU x0:Nat):Int)≤1048576-0
 case neg=>
  go_enter Tryz.func4,Tryz.ntmps4
  go_wp2_with fail
  refine(wC (M:=maxLen) (by unfold maxLen;omega) _ x0 _ _ (h0.up YJ.below) (by omega) (by omega)).mono ?_;rw[iZ (by omega)];rintro e w' ⟨rfl,hb⟩;go_wp2;go_ret;exact⟨rfl,(YJ.quiet hb).below⟩
 have hcm1:=h1.bZ;have hcp1:=h1.cap
 unfold maxLen at hcm1
 by_cases hz1:((xu x1:Nat):Int)≤1048576-0-((VU x0:Nat):Int)
 case neg=>
  go_enter Tryz.func4,Tryz.ntmps4
  go_wp2_with fail
  refine(wC (M:=maxLen) (by unfold maxLen;omega) _ x0 _ _ (h0.up YJ.below) (by omega) (by omega)).mono ?_;rw[iR (by omega)];rintro e aey ⟨rfl,hb3⟩;have S3:=YJ.quiet hb3;clear q2;have q4:=S3.cells 0 rfl
  go_wp2_with fail
  refine(zJ _ n1 _ x1 _ _ (h1.up S3.below) hw1 (by omega) (by omega)).mono ?_;rw[iZ (by omega)];rintro e w' ⟨rfl,hb⟩;go_wp2;go_ret;exact⟨rfl,(S3.quiet hb).below⟩
 have hr0:=h0.less (M':=1048576) (by omega);have HR0:=af hr0;clear hr0;have aez:AP x0≤4194304:=by have:=YK x0;omega
 have hl1:(x1).length≤1048576:=by have:=hz1;unfold xu at this;omega
 have hn1:n1≤1048576:=by have:=h1.len;rw[iT] at this;omega
 have HR1:=af h1;have hM0:AP xb≤8388608:=by omega
 have hM1:∀l∈x1,l.length≤1048576:=fun l hl=>by have h1:=acB.out l hl;have h2:=hz1;omega
 have VW:=af hM1;clear hM1;go_enter Tryz.func4,Tryz.ntmps4
 go_wp2_with fail
 refine(wC (M:=maxLen) (by unfold maxLen;omega) _ x0 _ _ (h0.up YJ.below) (by omega) (by omega)).mono ?_;rw[iR (by omega)];rintro e aeA ⟨rfl,hb5⟩;have S5:=YJ.quiet hb5;clear q2;have q6:=S5.cells 0 rfl
 go_wp2_with fail
 refine(zJ _ n1 _ x1 _ _ (h1.up S5.below) hw1 (by omega) (by omega)).mono ?_;rw[iR (by omega)];rintro e aeB ⟨rfl,hb7⟩;have S7:=S5.quiet hb7;clear q6;have q8:=S7.cells 0 rfl;clear q8;have q9:=S7.cells 0 rfl
 go_wp2_with fail
 refine(uX _ x0 _ (HR0.out.up S7.below)).mono ?_;rintro e aeC ⟨v10,rfl,s10⟩;obtain⟨A10,n10,c10,B10,m10,d10,C10,l10,f10,hv⟩:=s10.gW 0 rfl;subst hv;have S10:=S7.call s10;clear q9;have q11:=S10.cells 0 rfl
 go_wp2_with fail
 refine(nV _ _ _ x1 _ (HR1.out.up S10.below) (by omega)).mono ?_;rintro e aeD ⟨v12,rfl,s12⟩;obtain⟨A12,c12,hv,-⟩:=s12.lT 0 rfl;subst hv;have S12:=S10.call s12
 go_wp2_with fail
 refine(P9 _ x0 xb _ _ _ x1 aw _ (S12.G7 1 rfl) (S12.yP 2 rfl) VW.out HXB.out).mono ?_;rintro e aaz ⟨v13,aeE,rfl,s13⟩;obtain⟨A13,n13,c13,B13,m13,d13,C13,l13,f13,hv⟩:=s13.gW 0 rfl;subst hv;obtain⟨Q13,z13,hv,-⟩:=s13.lT 1 rfl;subst hv;have S13:=S12.call s13;have VX:=(S13.alloc #[.int .i64 ((xb)).order.start,.slice A13 n13 c13,.slice B13 m13 d13,.slice C13 l13 f13,.int .i64 ((xb)).state] 28);clear q11;have q15:=VX.cells 0 rfl;have q16:=VX.cells 5 rfl
 go_wp2_with fail
 refine(uX _ x0 _ (HR0.out.up VX.below)).mono ?_;rintro e YL ⟨v17,rfl,s17⟩;obtain⟨A17,n17,c17,B17,m17,d17,C17,l17,f17,hv⟩:=s17.gW 0 rfl;subst hv;have S17:=VX.call s17;have Tf:=(S17.alloc #[.int .i64 (x0).order.start,.slice A17 n17 c17,.slice B17 m17 d17,.slice C17 l17 f17,.int .i64 (x0).state] 28);clear q15 q16;have q19:=Tf.cells 0 rfl;have q20:=Tf.cells 5 rfl;have q21:=Tf.cells 7 rfl
 go_wp2_with fail
 refine(nV _ _ _ x1 _ (HR1.out.up Tf.below) (by omega)).mono ?_;rintro e aeF ⟨v22,rfl,s22⟩;obtain⟨A22,c22,hv,-⟩:=s22.lT 0 rfl;subst hv;have XG:=Tf.call s22;clear q19 q20 q21;have q23:=XG.cells 0 rfl;have q24:=XG.cells 5 rfl;have q25:=XG.cells 7 rfl
 go_wp2_with fail
 refine(Fq _ x0 xb _ _ _ x1 aw _ (XG.G7 6 rfl) (XG.yP 8 rfl) (HE.out.up XG.below) (HP.out.up XG.below) VW.out HXB.out).mono ?_;rintro e aaA ⟨v26,aeG,rfl,s26⟩;obtain⟨A26,n26,c26,B26,m26,d26,C26,l26,f26,hv⟩:=s26.gW 0 rfl;subst hv;obtain⟨Q26,z26,hv,-⟩:=s26.lT 1 rfl;subst hv;have S26:=XG.call s26;have MF:=(S26.alloc #[.int .i64 ((xb)).order.start,.slice A26 n26 c26,.slice B26 m26 d26,.slice C26 l26 f26,.int .i64 ((xb)).state] 28);clear q23 q24 q25;have q28:=MF.cells 0 rfl;have q29:=MF.cells 5 rfl;have q30:=MF.cells 7 rfl;have q31:=MF.cells 11 rfl
 go_wp2_with fail
 refine(pY _ (xb) _ _ (MF.G7 9 rfl) (MF.G7 3 rfl)).mono ?_;rintro e aeH ⟨rfl,acC⟩;have YM:=MF.quiet acC;clear q28 q29 q30 q31;have q33:=YM.cells 0 rfl;have q34:=YM.cells 5 rfl;have q35:=YM.cells 7 rfl;have q36:=YM.cells 11 rfl
 go_wp2_with fail
 refine(lS _ _ _ (aw) _ _ _ _ (YM.yP 10 rfl) (YM.yP 4 rfl)).mono ?_;rintro e aeI ⟨rfl,acD⟩;have S37:=YM.quiet acD;clear q33 q34 q35 q36;have q38:=S37.cells 0 rfl;have q39:=S37.cells 5 rfl;have q40:=S37.cells 7 rfl;have q41:=S37.cells 11 rfl
 go_upto_region 14 with(fail)
 refine kS (σ:=Value)
  (fun s i=>match i with
   |0=>.agg #[.int .i64 (x0).order.start,.slice A17 n17 c17,.slice B17 m17 d17,.slice C17 l17 f17,.int .i64 (x0).state]
   |1=>.agg #[.int .i64 (x0).order.start,.slice Ax0 nx0 cx0,.slice Bx0 mx0 dx0,.slice Cx0 lx0 fx0,.int .i64 (x0).state]
   |2=>s
   |3=>.bool true
   |4=>.bool false
   |_=>undef)
  (fun D s BH=>Sn w BH fun i=>match i with
   |0=>some (ah w.heap.size 42 #[.int .i64 (x0).order.start,.slice Ax0 nx0 cx0,.slice Bx0 mx0 dx0,.slice Cx0 lx0 fx0,.int .i64 (x0).state])
   |1=>some (bF (.agg #[.int .i64 (x0).order.start,.slice A10 n10 c10,.slice B10 m10 d10,.slice C10 l10 f10,.int .i64 (x0).state]) x0)
   |2=>some (dZ (.slice A12 (x1).length c12) x1)
   |3=>some (bF (.agg #[.int .i64 ((xb)).order.start,.slice A13 n13 c13,.slice B13 m13 d13,.slice C13 l13 f13,.int .i64 ((xb)).state]) (xb))
   |4=>some (dZ (.slice Q13 ((aw)).length z13) (aw))
   |5=>some (ah aaz.heap.size 28 #[.int .i64 ((xb)).order.start,.slice A13 n13 c13,.slice B13 m13 d13,.slice C13 l13 f13,.int .i64 ((xb)).state])
   |6=>some (bF (.agg #[.int .i64 (x0).order.start,.slice A17 n17 c17,.slice B17 m17 d17,.slice C17 l17 f17,.int .i64 (x0).state]) x0)
   |7=>some (ah YL.heap.size 28 #[.int .i64 (x0).order.start,.slice A17 n17 c17,.slice B17 m17 d17,.slice C17 l17 f17,.int .i64 (x0).state])
   |8=>some (dZ (.slice A22 (x1).length c22) x1)
   |9=>some (bF (.agg #[.int .i64 ((xb)).order.start,.slice A26 n26 c26,.slice B26 m26 d26,.slice C26 l26 f26,.int .i64 ((xb)).state]) (xb))
   |10=>some (dZ (.slice Q26 ((aw)).length z26) (aw))
   |11=>some (ah aaA.heap.size 28 #[.int .i64 ((xb)).order.start,.slice A26 n26 c26,.slice B26 m26 d26,.slice C26 l26 f26,.int .i64 ((xb)).state])
   |12=>if D 2=true then some (bF s x0) else none
   |_=>none)
  undef ?_ ?_ ?_
 ·intro D hD;refine((Sn.eY S37).quiet ((ai _ _).drew)).congr fun i=>?_
  match i with
  |0 | 1 | 2 | 3 | 4 | 5 | 6 | 7 | 8 | 9 | 10 | 11=>rfl
  |12=>exact if_neg (by rw[hD 2 (by decide)];simp)
  |q+13=>rfl
 ·refine Cs (fun D s BH hR _ hd _ _ hs K hK=>?_) ?_
  ·have e8:=hs.o 8 (.pointer (some ⟨YL.heap.size,0,none⟩));clear hs;have qk:=(hR.blk 7 rfl).cell;go_simp;exact hK s BH sv hR
  refine Cs (fun D s BH hR _ hd _ _ hs K hK=>?_) ?_
  ·have e2:=hs.o 2 (.pointer (some ⟨w.heap.size,0,none⟩));clear hs;have qk:=(hR.blk 0 rfl).cell;go_simp;exact hK s BH sv hR
  refine Cs (fun D s BH hR (hDi:D 2=false) hd hsh _ hs K hK=>?_) ?_
  ·have e56:=hs.v 1 56 hd;have g56:=aZ e56;clear hs;have n3:D 3=false:=hsh.no hDi 3 rfl ⟨2,.data⟩ (by simp) rfl rfl;have n4:D 4=false:=hsh.no n3 4 rfl ⟨3,.data⟩ (by simp) rfl rfl;go_simp;refine(uX _ x0 _ (HR0.out.up hR.below)).mono ?_;rintro e w2 ⟨v2,rfl,s2⟩
   refine hK v2 w2
    (fun j hj=>by
     match j,hj with
     |0,hj | 1,hj=>rfl
     |2,hj=>rw[hDi] at hj;cases hj
     |3,hj | 4,hj=>rfl
     |_+5,hj=>rfl)
    ((hR.add 12 (if_neg (by rw[hDi];simp)) s2).congr
     (fun i=>by
      match i with
      |0 | 1 | 2 | 3 | 4 | 5 | 6 | 7 | 8 | 9 | 10 | 11 | 12=>rfl
      |q+13=>exact(if_neg (show¬(q+13=12) by omega)).symm))
  refine Cs (fun D s BH hR _ hd _ _ hs K hK=>?_) ?_
  ·have e55:=hs.v 0 55 hd;have e57:=hs.v 2 57 hd;have g55:=aZ e55;have g57:=aZ e57;clear hs;have d2:D 2=true:=hd ⟨2,.data⟩ (by simp) rfl;go_simp;refine(pY _ x0 _ _ (hR.G7 6 rfl) (hR.G7 12 (if_pos d2))).mono ?_;rintro e w2 ⟨rfl,hb2⟩;exact hK s w2 sv (hR.quiet hb2)
  refine Cs (fun D s BH hR _ hd _ _ hs K hK=>?_) ?_
  ·have e58:=hs.v 3 58 hd;clear hs;go_simp;exact hK s BH sv hR
  exact au.nil
 ·intro D s BH hR hD;simp only[eG,Act.put,aO,aS,aV];have S43:St w BH [ah w.heap.size 42 #[.int .i64 (x0).order.start,.slice Ax0 nx0 cx0,.slice Bx0 mx0 dx0,.slice Cx0 lx0 fx0,.int .i64 (x0).state],bF (.agg #[.int .i64 (x0).order.start,.slice A10 n10 c10,.slice B10 m10 d10,.slice C10 l10 f10,.int .i64 (x0).state]) x0,dZ (.slice A12 (x1).length c12) x1,bF (.agg #[.int .i64 ((xb)).order.start,.slice A13 n13 c13,.slice B13 m13 d13,.slice C13 l13 f13,.int .i64 ((xb)).state]) (xb),dZ (.slice Q13 ((aw)).length z13) (aw),ah aaz.heap.size 28 #[.int .i64 ((xb)).order.start,.slice A13 n13 c13,.slice B13 m13 d13,.slice C13 l13 f13,.int .i64 ((xb)).state],bF (.agg #[.int .i64 (x0).order.start,.slice A17 n17 c17,.slice B17 m17 d17,.slice C17 l17 f17,.int .i64 (x0).state]) x0,ah YL.heap.size 28 #[.int .i64 (x0).order.start,.slice A17 n17 c17,.slice B17 m17 d17,.slice C17 l17 f17,.int .i64 (x0).state],dZ (.slice A22 (x1).length c22) x1,bF (.agg #[.int .i64 ((xb)).order.start,.slice A26 n26 c26,.slice B26 m26 d26,.slice C26 l26 f26,.int .i64 ((xb)).state]) (xb),dZ (.slice Q26 ((aw)).length z26) (aw),ah aaA.heap.size 28 #[.int .i64 ((xb)).order.start,.slice A26 n26 c26,.slice B26 m26 d26,.slice C26 l26 f26,.int .i64 ((xb)).state]]:=hR.fO [0,1,2,3,4,5,6,7,8,9,10,11] (by decide) rfl;clear hR hD;clear q38 q39 q40 q41;have q44:=S43.cells 0 rfl;have q45:=S43.cells 5 rfl;have q46:=S43.cells 7 rfl;have q47:=S43.cells 11 rfl
  go_wp2_with fail
  refine(nV _ _ _ x1 _ (HR1.out.up S43.below) (by omega)).mono ?_;rintro e aeJ ⟨v48,rfl,s48⟩;obtain⟨A48,c48,hv,-⟩:=s48.lT 0 rfl;subst hv;have S48:=S43.call s48
  go_wp2_with fail
  refine(lS _ _ _ x1 _ _ _ _ (S48.yP 8 rfl) (S48.yP 12 rfl)).mono ?_;rintro e aeK ⟨rfl,acE⟩;have S49:=S48.quiet acE;clear q44 q45 q46 q47;have q50:=S49.cells 0 rfl;have q51:=S49.cells 5 rfl;have q52:=S49.cells 7 rfl;have q53:=S49.cells 11 rfl
  go_wp2_with fail
  refine(zK S49 6 rfl (1) (by omega)).mono ?_;rintro e aeL ⟨rfl,s54⟩;have S54:=s54;clear q50 q51 q52 q53;have q55:=S54.cells 0 rfl;have q56:=S54.cells 5 rfl;have q57:=S54.cells 7 rfl;have q58:=S54.cells 11 rfl
  go_wp2_with fail
  refine(tq S54 8 rfl (1+AP (x0)) (by omega) (by omega)).mono ?_;rintro e aeM ⟨rfl,s59⟩;have YN:=s59;clear q55 q56 q57 q58;have q60:=YN.cells 0 rfl;have q61:=YN.cells 5 rfl;have q62:=YN.cells 7 rfl;have q63:=YN.cells 11 rfl
  go_wp2_with fail
  refine(pY _ (xb) _ _ (YN.G7 9 rfl) (YN.G7 3 rfl)).mono ?_;rintro e aeN ⟨rfl,hb64⟩;have S64:=YN.quiet hb64;clear q60 q61 q62 q63;have q65:=S64.cells 0 rfl;have q66:=S64.cells 5 rfl;have q67:=S64.cells 7 rfl;have q68:=S64.cells 11 rfl
  go_wp2_with fail
  refine(lS _ _ _ (aw) _ _ _ _ (S64.yP 10 rfl) (S64.yP 4 rfl)).mono ?_;rintro e aeO ⟨rfl,acF⟩;have S69:=S64.quiet acF;clear q65 q66 q67 q68;have q70:=S69.cells 0 rfl;have q71:=S69.cells 5 rfl;have q72:=S69.cells 7 rfl;have q73:=S69.cells 11 rfl
  go_wp2_with fail
  refine(zK S69 9 rfl (1) (by omega)).mono ?_;rintro e aeP ⟨rfl,s74⟩;have S74:=s74;clear q70 q71 q72 q73;have q75:=S74.cells 0 rfl;have q76:=S74.cells 5 rfl;have q77:=S74.cells 7 rfl;have q78:=S74.cells 11 rfl
  go_wp2_with fail
  refine(tq S74 10 rfl (1+AP (xb)) (by omega) (by omega)).mono ?_;rintro e aeQ ⟨rfl,s79⟩;have S79:=s79;clear q75 q76 q77 q78;have q80:=S79.cells 0 rfl;have q81:=S79.cells 5 rfl;have q82:=S79.cells 7 rfl;have q83:=S79.cells 11 rfl
  go_wp2_with fail
  refine(xw _ (1) (xb) _ (S79.G7 9 rfl) (by omega)).mono ?_;rintro e aeR ⟨rfl,acG⟩;have S84:=S79.quiet acG;clear q80 q81 q82 q83;have q85:=S84.cells 0 rfl;have q86:=S84.cells 5 rfl;have q87:=S84.cells 7 rfl;have q88:=S84.cells 11 rfl
  go_wp2_with fail
  refine(sJ _ _ _ (1+AP (xb)) _ _ (S84.yP 10 rfl) (by omega) (by omega)).mono ?_;rintro e aeS ⟨rfl,acH⟩;have VN:=S84.quiet acH;clear q85 q86 q87 q88;have q90:=VN.cells 0 rfl;have q91:=VN.cells 5 rfl;have q92:=VN.cells 7 rfl;have q93:=VN.cells 11 rfl;clear q90 q91 q92 q93;have q94:=VN.cells 0 rfl;have q95:=VN.cells 5 rfl;have q96:=VN.cells 7 rfl;have q97:=VN.cells 11 rfl
  go_wp2_with fail
  refine(uX _ x0 _ (HR0.out.up VN.below)).mono ?_;rintro e aeT ⟨v98,rfl,s98⟩;obtain⟨A98,n98,c98,B98,m98,d98,C98,l98,f98,hv⟩:=s98.gW 0 rfl;subst hv;have S98:=VN.call s98;clear q94 q95 q96 q97;have q99:=S98.cells 0 rfl;have acI:=S98.cells 5 rfl;have acJ:=S98.cells 7 rfl;have acK:=S98.cells 11 rfl
  go_wp2_with fail
  refine(nV _ _ _ x1 _ (HR1.out.up S98.below) (by omega)).mono ?_;rintro e aeU ⟨aeV,rfl,aaB⟩;obtain⟨aeW,aeX,hv,-⟩:=aaB.lT 0 rfl;subst hv;have Ti:=S98.call aaB
  go_wp2_with fail
  refine(Fq _ x0 xb _ _ _ x1 aw _ (Ti.G7 13 rfl) (Ti.yP 14 rfl) (HE.out.up Ti.below) (HP.out.up Ti.below) VW.out HXB.out).mono ?_;rintro e aeY ⟨aeZ,aei,rfl,YO⟩;obtain⟨acL,n104,acM,acN,acO,acP,acQ,acR,f104,hv⟩:=YO.gW 0 rfl;subst hv;obtain⟨ae0,ae1,hv,-⟩:=YO.lT 1 rfl;subst hv;have acS:=Ti.call YO;have zL:=(acS.alloc #[.int .i64 ((xb)).order.start,.slice acL n104 acM,.slice acN acO acP,.slice acQ acR f104,.int .i64 ((xb)).state] 28);clear q99 acI acJ acK;have acT:=zL.cells 0 rfl;have acU:=zL.cells 5 rfl;have acV:=zL.cells 7 rfl;have acW:=zL.cells 11 rfl;have acX:=zL.cells 17 rfl
  go_wp2_with fail
  refine(pY _ (xb) _ _ (zL.G7 15 rfl) (zL.G7 3 rfl)).mono ?_;rintro e ae2 ⟨rfl,aaC⟩;have Jr:=zL.quiet aaC;clear acT acU acV acW acX;have acY:=Jr.cells 0 rfl;have acZ:=Jr.cells 5 rfl;have ac0:=Jr.cells 7 rfl;have ac1:=Jr.cells 11 rfl;have ac2:=Jr.cells 17 rfl
  go_wp2_with fail
  refine(lS _ _ _ (aw) _ _ _ _ (Jr.yP 16 rfl) (Jr.yP 4 rfl)).mono ?_;rintro e ae3 ⟨rfl,aaD⟩;have MG:=Jr.quiet aaD;clear acY acZ ac0 ac1 ac2;have ac3:=MG.cells 0 rfl;have ac4:=MG.cells 5 rfl;have ac5:=MG.cells 7 rfl;have ac6:=MG.cells 11 rfl;have ac7:=MG.cells 17 rfl
  go_wp2_with fail
  refine(xw _ (1) (xb) _ (MG.G7 9 rfl) (by omega)).mono ?_;rintro e ae4 ⟨rfl,aaE⟩;have MH:=MG.quiet aaE;clear ac3 ac4 ac5 ac6 ac7;have ac8:=MH.cells 0 rfl;have ac9:=MH.cells 5 rfl;have ada:=MH.cells 7 rfl;have adb:=MH.cells 11 rfl;have ade:=MH.cells 17 rfl
  go_wp2_with fail
  refine(sJ _ _ _ (1+AP (xb)) _ _ (MH.yP 10 rfl) (by omega) (by omega)).mono ?_;rintro e ae5 ⟨rfl,aaF⟩;have Qa:=MH.quiet aaF;clear ac8 ac9 ada adb ade;have ae6:=Qa.cells 0 rfl;have ae7:=Qa.cells 5 rfl;have ae8:=Qa.cells 7 rfl;have ae9:=Qa.cells 11 rfl;have afa:=Qa.cells 17 rfl;go_wp2;go_ret;exact⟨rfl,Qa.below⟩
end Go.Proofs.YtkmcengmglgdeaaGreatDoor
