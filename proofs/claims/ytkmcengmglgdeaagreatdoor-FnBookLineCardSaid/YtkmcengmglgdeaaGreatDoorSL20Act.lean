/- A part of the proof: L20Act. -/
import Derived.Test.YtkmcengmglgdeaaGreatDoorSRunB
import Derived.Test.YtkmcengmglgdeaaGreatDoorSPermD
import Derived.Test.YtkmcengmglgdeaaGreatDoorSDraw
import Derived.Test.YtkmcengmglgdeaaGreatDoorSPlanForW
namespace Go.Proofs.YtkmcengmglgdeaaGreatDoor
set_option linter.unusedVariables false
set_option linter.unusedSimpArgs false
set_option maxRecDepth 100000
set_option maxHeartbeats 8000000
open Go.ChangeShapes Go.WideShapes Go.ChangeAt Go.RowKit
theorem sG (b:Bool):b.toNat≤1:=by cases b<;>decide
def kd (x:Int):Int:=([0,0,0,0,0,1,1,2,3]:List Int).getD x.toNat 0
theorem abw {x:Int} (h0:0≤x) (h1:x<9):([0,0,0,0,0,1,1,2,3]:List Int)[x.toNat]? =some (kd x):=by
 obtain⟨z,rfl⟩:=bC h0;have hz:z<9:=by omega
 unfold kd
 rw[bW,List.getD_eq_getElem?_getD,bH (by simpa using hz)];rfl
theorem YC (x:Int):0≤kd x∧kd x≤3:=by
 unfold kd
 rw[List.getD_eq_getElem?_getD]
 generalize x.toNat=z
 by_cases hz:z<9
 ·have:∀z:Fin 9,0≤(([0,0,0,0,0,1,1,2,3]:List Int)[z.1]?).getD 0∧(([0,0,0,0,0,1,1,2,3]:List Int)[z.1]?).getD 0≤3:=by decide
  exact this ⟨z,hz⟩
 ·rw[List.getElem?_eq_none (by simpa using hz)];decide
def KY (x:Int):Int:=if x<59 then 0 else 1
theorem IL (x:Int):0≤KY x∧KY x≤1:=by unfold KY;split<;>omega
theorem WX {x:Int} (h0:0≤x) (h1:x<60):x.tdiv 59=KY x:=by
 rw[Int.tdiv_eq_ediv_of_nonneg h0]
 unfold KY;split<;>omega
theorem Sn.set2 {w W:World} {M:Nat→Option dh} (h:Sn w W M) (k:Nat) {g:Nat} {t:TypeId} {a b:Value} (hk:M k=some (ah g t #[a,b])) (x y:Value):Sn w ((W.setCell ⟨g,0,none⟩ x).setCell ⟨g,1,none⟩ y) (fun i=>if i=k then some (ah g t #[x,y]) else M i):=
 h.store k hk (((h.blk k hk).nM 0 x).nM 1 y) ((((Only.refl [g] W).set (by simp) x).set (by simp) y))
theorem St.set2 {w W:World} {L:List dh} (h:St w W L) (k:Nat) {g:Nat} {t:TypeId} {a b:Value} (hk:L[k]? =some (ah g t #[a,b])) (x y:Value):St w ((W.setCell ⟨g,0,none⟩ x).setCell ⟨g,1,none⟩ y) (L.set k (ah g t #[x,y])):=
 h.store k hk (((h.blk k hk).nM 0 x).nM 1 y) ((((Only.refl [g] W).set (by simp) x).set (by simp) y))
theorem Dh {w W:World} {X:dh} {g hi:Nat} (S:St w W [fG w g hi,X]) (hh:hi≤400000000000) (v:Value) (b:aG) (h:∀W' F,X.at_ W' F→RdB W' W'.heap.size v b):
  Calls Tryz.prog 102 #[.pointer (some ⟨g,0,none⟩),v] W fun e w'=>∃k m,e= .returned (.agg #[.int .i64 k,.int .i64 m])∧(0≤k∧k≤7)∧(-10≤m∧m≤130)∧St w w' [fG w g (hi+8),X]:=by
 obtain⟨F0,hF0,-⟩:=S.get 1 rfl;obtain⟨G,gn,gc,G',n',c',D',dn,dc,hv⟩:=(h W F0 hF0).form;subst hv;obtain⟨os,hos⟩:∃x,b.order.start=x:=⟨_,rfl⟩;obtain⟨st,ja⟩:∃x,b.state=x:=⟨_,rfl⟩;have HO:Hid (∀W' F,X.at_ W' F→oW W' W'.heap.size (.agg #[.int .i64 os,.slice G gn gc,.slice G' n' c']) b.order):=af fun W' F hF=>by rw[←hos];exact(h W' F hF).order
 rw[hos,ja];obtain⟨r,hr⟩:∃r,W.heap.size=r:=⟨_,rfl⟩
 have aS:Hid (St w ((W.alloc (.cells #[.int .i64 os,.slice G gn gc,.slice G' n' c',.slice D' dn dc,.int .i64 st] 28)).alloc (.cells #[.int .i64 0,.int .i64 0] 64)) [fG w g hi,X,ah r 28 #[.int .i64 os,.slice G gn gc,.slice G' n' c',.slice D' dn dc,.int .i64 st],ah (r+1) 64 #[.int .i64 0,.int .i64 0]]):=af (by
  have:=(S.alloc #[.int .i64 os,.slice G gn gc,.slice G' n' c',.slice D' dn dc,.int .i64 st] 28).alloc #[.int .i64 0,.int .i64 0] 64
  rw[show(W.alloc (.cells #[.int .i64 os,.slice G gn gc,.slice G' n' c',.slice D' dn dc,.int .i64 st] 28)).heap.size=r+1 by simp[hr],hr] at this
  exact this)
 clear S h hos ja hF0;go_enter Tryz.func102,Tryz.ntmps102
 go_upto_region 1 with(fail)
 try rw[hr]
 have HW0:Hid (∀wx,Sn w wx (fun _=>none)→True):=af fun _ _=>trivial
 clear HW0
 refine kG (σ:=Nat×{x:Int//0≤x∧x<9}×{x:Int//0≤x∧x<60}×Nat)
  (fun s i=>match i with
   |0=>.slice (some ⟨s.1,0,none⟩) 9 9
   |1=>.pointer (some ⟨g,0,none⟩)
   |2=>.int .i64 s.2.1.1
   |3=>.pointer (some ⟨s.1,s.2.1.1.toNat,none⟩)
   |4=>.int .i64 (kd s.2.1.1)
   |5=>.pointer (some ⟨g,0,none⟩)
   |6=>.int .i64 s.2.2.1.1
   |7=>.int .i64 (KY s.2.2.1.1)
   |8=>.int .i64 (KY s.2.2.1.1*4)
   |9=>.int .i64 (kd s.2.1.1+KY s.2.2.1.1*4)
   |10=>.agg #[.int .i64 (kd s.2.1.1+KY s.2.2.1.1*4),.int .i64 0]
   |11=>.pointer (some ⟨s.2.2.2,0,none⟩)
   |_=>undef)
  (fun D s wx=>Sn w wx fun i=>match i with
   |0=>some (fG w g (hi+(D 2).toNat+(D 6).toNat))
   |1=>some (X)
   |2=>some (ah r 28 #[.int .i64 os,.slice G gn gc,.slice G' n' c',.slice D' dn dc,.int .i64 st])
   |3=>some (ah (r+1) 64 #[.int .i64 0,.int .i64 0])
   |4=>if D 0=true then some (ax (.slice (some ⟨s.1,0,none⟩) 9 9) [0,0,0,0,0,1,1,2,3]) else none
   |5=>if D 11=true then some (ah s.2.2.2 64 (if D 12=true then #[.int .i64 (kd s.2.1.1+KY s.2.2.1.1*4),.int .i64 0] else #[.int .i64 0,.int .i64 0])) else none
   |_=>none)
  (0,⟨0,by omega,by omega⟩,⟨0,by omega,by omega⟩,0) ?_ ?_ ?_
 ·intro D hD;refine((Sn.dN aS.out).quiet ((ai _ _).drew)).congr fun i=>?_
  match i with
  |0=>simp only[hD 2 (by decide),hD 6 (by decide)];rfl
  |1 | 2 | 3=>rfl
  |4=>simp only[hD 0 (by decide)];rfl
  |5=>simp only[hD 11 (by decide)];rfl
  |q+6=>rfl
 ·refine Cs (fun D s wx hR (hDi:D 0=false) hd hsh _ hs K hK=>?_) ?_
  ·clear hs;have n3:D 3=false:=hsh.no hDi 3 rfl ⟨0,.data⟩ (by simp) rfl rfl;have n4:D 4=false:=hsh.no n3 4 rfl ⟨3,.data⟩ (by simp) rfl rfl;have n9:D 9=false:=hsh.no n4 9 rfl ⟨4,.data⟩ (by simp) rfl rfl;have n10:D 10=false:=hsh.no n9 10 rfl ⟨9,.data⟩ (by simp) rfl rfl;have n12:D 12=false:=hsh.no n10 12 rfl ⟨10,.data⟩ (by simp) rfl rfl;go_simp
   refine hK (wx.heap.size,s.2) _
    (fun j hj=>by
     match j,hj with
     |0,hj=>rw[hDi] at hj;cases hj
     |1,hj | 2,hj=>rfl
     |3,hj=>rw[n3] at hj;cases hj
     |4,hj=>rw[n4] at hj;cases hj
     |5,hj | 6,hj | 7,hj | 8,hj=>rfl
     |9,hj=>rw[n9] at hj;cases hj
     |10,hj=>rw[n10] at hj;cases hj
     |11,hj=>rfl
     |12,hj=>rw[n12] at hj;cases hj
     |_+13,hj=>rfl)
    ((hR.add 4 (if_neg (by rw[hDi];simp)) (St.lit wx [0,0,0,0,0,1,1,2,3] 9 rfl (by simp) (by decide))).congr
     (fun i=>by
      match i with
      |0 | 1 | 2 | 3 | 4 | 5=>rfl
      |q+6=>exact(if_neg (show¬(q+6=4) by omega)).symm))
  refine Cs (fun D s wx hR _ hd _ _ hs K hK=>?_) ?_
  ·have e0:=hs.o 0 (.pointer (some ⟨g,0,none⟩));clear hs;go_simp;exact hK s wx sv hR
  refine Cs (fun D s wx hR (hDi:D 2=false) hd hsh _ hs K hK=>?_) ?_
  ·have e8:=hs.v 1 8 hd;have g8:=aX e8;clear hs;have n3:D 3=false:=hsh.no hDi 3 rfl ⟨2,.data⟩ (by simp) rfl rfl;have n4:D 4=false:=hsh.no n3 4 rfl ⟨3,.data⟩ (by simp) rfl rfl;have n9:D 9=false:=hsh.no n4 9 rfl ⟨4,.data⟩ (by simp) rfl rfl;have n10:D 10=false:=hsh.no n9 10 rfl ⟨9,.data⟩ (by simp) rfl rfl;have n12:D 12=false:=hsh.no n10 12 rfl ⟨10,.data⟩ (by simp) rfl rfl;go_simp;refine(hR.pick 0 rfl (by have:=sG (D 2);have:=sG (D 6);omega) 9).mono ?_;rintro e2 w2 ⟨x2,rfl,⟨b1,b2,-⟩,s2⟩;have b3:=b2 (by omega)
   refine hK (s.1,⟨x2,b1,b3⟩,s.2.2) w2
    (fun j hj=>by
     match j,hj with
     |0,hj | 1,hj=>rfl
     |2,hj=>rw[hDi] at hj;cases hj
     |3,hj=>rw[n3] at hj;cases hj
     |4,hj=>rw[n4] at hj;cases hj
     |5,hj | 6,hj | 7,hj | 8,hj=>rfl
     |9,hj=>rw[n9] at hj;cases hj
     |10,hj=>rw[n10] at hj;cases hj
     |11,hj=>rfl
     |12,hj=>rw[n12] at hj;cases hj
     |_+13,hj=>rfl)
    (s2.congr
     (fun i=>by
      match i with
      |0=>(show some (fG w g (hi+true.toNat+(D 6).toNat))=some (fG w g (hi+(D 2).toNat+(D 6).toNat+1));rw[hDi,show hi+true.toNat+(D 6).toNat=hi+false.toNat+(D 6).toNat+1 by simp;omega])
      |1 | 2 | 3 | 4=>rfl
      |5=>(show(if D 11=true then some (ah _ _ (if D 12=true then _ else _)) else none)=(if D 11=true then some (ah _ _ (if D 12=true then _ else _)) else none);rw[n12]<;>rfl)
      |q+6=>exact(if_neg (show¬(q+6=0) by omega)).symm))
  refine Cs (fun D s wx hR _ hd _ _ hs K hK=>?_) ?_
  ·have e7:=hs.v 0 7 hd;have e9:=hs.v 2 9 hd;clear hs;obtain⟨z,hz⟩:=bC s.2.1.2.1;have hz9:(z:Int)<9:=by have:=s.2.1.2.2;omega
   rw[hz] at e9;have e9':Int.toNat s.2.1.1=z:=by rw[hz];rfl
   go_simp
   first | (exact hK s wx sv hR) | (have hk:=hK s wx (fun _ _=>rfl) hR;rw[e9'] at hk;exact hk) | (have hk:=hK s wx (fun _ _=>rfl) hR;simp only[e9'] at hk;exact hk)
  refine Cs (fun D s wx hR _ hd hsh _ hs K hK=>?_) ?_
  ·have e10:=hs.v 3 10 hd;clear hs;have d0:D 0=true:=hsh 3 _ rfl (hd ⟨3,.data⟩ (by simp) rfl) ⟨0,.data⟩ (by simp) rfl;have hc:=(hR.oK 4 (if_pos d0) rfl s.2.1.1.toNat _ (abw s.2.1.2.1 s.2.1.2.2)).1;go_simp;exact hK s wx sv hR
  refine Cs (fun D s wx hR _ hd _ _ hs K hK=>?_) ?_
  ·have e0:=hs.o 0 (.pointer (some ⟨g,0,none⟩));clear hs;go_simp;exact hK s wx sv hR
  refine Cs (fun D s wx hR (hDi:D 6=false) hd hsh _ hs K hK=>?_) ?_
  ·have e12:=hs.v 5 12 hd;have g12:=aX e12;clear hs;have n7:D 7=false:=hsh.no hDi 7 rfl ⟨6,.data⟩ (by simp) rfl rfl;have n8:D 8=false:=hsh.no n7 8 rfl ⟨7,.data⟩ (by simp) rfl rfl;have n9:D 9=false:=hsh.no n8 9 rfl ⟨8,.data⟩ (by simp) rfl rfl;have n10:D 10=false:=hsh.no n9 10 rfl ⟨9,.data⟩ (by simp) rfl rfl;have n12:D 12=false:=hsh.no n10 12 rfl ⟨10,.data⟩ (by simp) rfl rfl;go_simp;refine(hR.pick 0 rfl (by have:=sG (D 2);have:=sG (D 6);omega) 60).mono ?_;rintro e2 w2 ⟨x2,rfl,⟨b1,b2,-⟩,s2⟩;have b3:=b2 (by omega)
   refine hK (s.1,s.2.1,⟨x2,b1,b3⟩,s.2.2.2) w2
    (fun j hj=>by
     match j,hj with
     |0,hj | 1,hj | 2,hj | 3,hj | 4,hj | 5,hj=>rfl
     |6,hj=>rw[hDi] at hj;cases hj
     |7,hj=>rw[n7] at hj;cases hj
     |8,hj=>rw[n8] at hj;cases hj
     |9,hj=>rw[n9] at hj;cases hj
     |10,hj=>rw[n10] at hj;cases hj
     |11,hj=>rfl
     |12,hj=>rw[n12] at hj;cases hj
     |_+13,hj=>rfl)
    (s2.congr
     (fun i=>by
      match i with
      |0=>(show some (fG w g (hi+(D 2).toNat+true.toNat))=some (fG w g (hi+(D 2).toNat+(D 6).toNat+1));rw[hDi];rfl)
      |1 | 2 | 3 | 4=>rfl
      |5=>(show(if D 11=true then some (ah _ _ (if D 12=true then _ else _)) else none)=(if D 11=true then some (ah _ _ (if D 12=true then _ else _)) else none);rw[n12]<;>rfl)
      |q+6=>exact(if_neg (show¬(q+6=0) by omega)).symm))
  refine Cs (fun D s wx hR _ hd _ _ hs K hK=>?_) ?_
  ·have e13:=hs.v 6 13 hd;clear hs;have hq:=WX s.2.2.1.2.1 s.2.2.1.2.2;have hqb:=IL s.2.2.1.1;have hqw:IntKind.i64.wrap (KY s.2.2.1.1)=KY s.2.2.1.1:=by rw[IntKind.wrap_i64];omega
   go_simp;exact hK s wx sv hR
  refine Cs (fun D s wx hR _ hd _ _ hs K hK=>?_) ?_
  ·have e14:=hs.v 7 14 hd;clear hs;have hqb:=IL s.2.2.1.1;have hqw:IntKind.i64.wrap (KY s.2.2.1.1*4)=KY s.2.2.1.1*4:=by rw[IntKind.wrap_i64];omega
   go_simp;exact hK s wx sv hR
  refine Cs (fun D s wx hR _ hd _ _ hs K hK=>?_) ?_
  ·have e11:=hs.v 4 11 hd;have e15:=hs.v 8 15 hd;clear hs;have hqb:=IL s.2.2.1.1;have hkb:=YC s.2.1.1;have hqw:IntKind.i64.wrap (kd s.2.1.1+KY s.2.2.1.1*4)=(kd s.2.1.1+KY s.2.2.1.1*4):=by rw[IntKind.wrap_i64];omega
   go_simp;exact hK s wx sv hR
  refine Cs (fun D s wx hR _ hd _ _ hs K hK=>?_) ?_
  ·have e16:=hs.v 9 16 hd;have g16:=aX e16;clear hs;go_simp;exact hK s wx sv hR
  refine Cs (fun D s wx hR (hDi:D 11=false) hd hsh _ hs K hK=>?_) ?_
  ·clear hs;have n12:D 12=false:=hsh.no hDi 12 rfl ⟨11,.data⟩ (by simp) rfl rfl;go_simp
   refine hK (s.1,s.2.1,s.2.2.1,wx.heap.size) _
    (fun j hj=>by
     match j,hj with
     |0,hj | 1,hj | 2,hj | 3,hj | 4,hj | 5,hj | 6,hj | 7,hj | 8,hj | 9,hj | 10,hj=>rfl
     |11,hj=>rw[hDi] at hj;cases hj
     |12,hj=>rfl
     |_+13,hj=>rfl)
    ((hR.add 5 (if_neg (by rw[hDi];simp)) (St.new1 wx #[.int .i64 0,.int .i64 0] 64)).congr
     (fun i=>by
      match i with
      |0 | 1 | 2 | 3 | 4=>rfl
      |5=>(show some (ah _ _ (if D 12=true then _ else _))=some (ah _ _ _);rw[n12]<;>rfl)
      |q+6=>exact(if_neg (show¬(q+6=5) by omega)).symm))
  refine Cs (fun D s wx hR (hDi:D 12=false) hd _ _ hs K hK=>?_) ?_
  ·have e5:=hs.v 11 5 hd;have e17:=hs.v 10 17 hd;clear hs;have dA:D 11=true:=hd ⟨11,.data⟩ (by simp) rfl;have kb:fU wx s.2.2.2 64 #[.int .i64 0,.int .i64 0]:=hR.blk 5 (by simp only[dA,hDi]<;>rfl);have f0:=kb.frozen;have qk:=kb.cell;go_simp
   exact hK s _ sv ((hR.set2 5 (a:=.int .i64 0) (b:=.int .i64 0) (by simp only[dA,hDi];rfl) _ _).congr
    (fun i=>by
     match i with
     |0 | 1 | 2 | 3 | 4=>rfl
     |5=>(show(if D 11=true then some (ah _ _ _) else none)=some (ah _ _ _);rw[dA];rfl)
     |q+6=>exact(if_neg (show¬(q+6=5) by omega)).symm))
  exact aj.nil
 ·intro D s wx hR hD;simp only[eH,Act.put,aO,aU,aW];have hkd:=YC s.2.1.1;have hqd:=IL s.2.2.1.1;obtain⟨kv,ZT⟩:∃kv,kd s.2.1.1+KY s.2.2.1.1*4=kv:=⟨_,rfl⟩;have hkv:0≤kv∧kv≤7:=by omega
  obtain⟨g5,hg5⟩:∃g5,s.2.2.2=g5:=⟨_,rfl⟩
  have bf:Hid (St w wx [fG w g (hi+2),X,ah r 28 #[.int .i64 os,.slice G gn gc,.slice G' n' c',.slice D' dn dc,.int .i64 st],ah (r+1) 64 #[.int .i64 0,.int .i64 0],ah g5 64 #[.int .i64 kv,.int .i64 0]]):=af (by
   rw[←ZT,←hg5]
   exact hR.eG [0,1,2,3,5] (by decide) (by simp only[List.map,hD 2 (by decide),hD 6 (by decide),hD 11 (by decide),hD 12 (by decide)]<;>rfl))
  rw[hg5,ZT];clear hR hD aS ZT hg5 hkd hqd;obtain⟨FX,hFX,-⟩:=bf.out.get 1 rfl;have HOX:=af (HO.out _ _ hFX);clear hFX;have q2:=bf.out.cells 2 rfl
  go_wp2_with fail
  refine(lK _ b.order st _ HOX.out).mono ?_;rintro e w3 ⟨v6,rfl,s3⟩;obtain⟨A6,c6,hv6,-⟩:=s3.uj 0 rfl;obtain⟨may,hmay⟩:∃may,dO b.order st=may:=⟨_,rfl⟩;rw[hmay] at s3 hv6;have DC:=Bx.mk hmay;obtain⟨ml,hml⟩:∃ml,may.length=ml:=⟨_,rfl⟩;rw[hml] at hv6;have HML:=Bx.mk hml;subst hv6;have ae2:ml≤6:=by rw[←hml,←hmay];exact sH _ _
  have cu:Hid (St w w3 [fG w g (hi+2),X,ah r 28 #[.int .i64 os,.slice G gn gc,.slice G' n' c',.slice D' dn dc,.int .i64 st],ah (r+1) 64 #[.int .i64 0,.int .i64 0],ah g5 64 #[.int .i64 kv,.int .i64 0],ax (.slice A6 ml c6) may]):=af (bf.out.call s3);clear s3 hmay hml bf q2 HOX;have q5:=cu.out.cells 4 rfl;have f5:=cu.out.free 4 rfl
  by_cases hk0:kv=0
  ·subst hk0
   by_cases hm0:ml=0
   ·subst hm0
    go_wp2_with fail
    refine(dQ cu.out (by omega) 7).mono ?_;rintro e UA ⟨y,rfl,⟨y1,y2,-⟩,UB⟩;have y3:=y2 (by omega);have dX:Hid (St w UA [fG w g (hi+3),X,ah r 28 #[.int .i64 os,.slice G gn gc,.slice G' n' c',.slice D' dn dc,.int .i64 st],ah (r+1) 64 #[.int .i64 0,.int .i64 0],ah g5 64 #[.int .i64 0,.int .i64 0],ax (.slice A6 0 c6) may]):=af UB;clear UB y2 cu;have q5:=dX.out.cells 4 rfl;have f5:=dX.out.free 4 rfl;have jB:Hid (St w (UA.setCell ⟨g5,1,none⟩ (.int .i64 y)) [fG w g (hi+3),X,ah r 28 #[.int .i64 os,.slice G gn gc,.slice G' n' c',.slice D' dn dc,.int .i64 st],ah (r+1) 64 #[.int .i64 0,.int .i64 0],ah g5 64 #[.int .i64 0,.int .i64 y],ax (.slice A6 0 c6) may]):=af (dX.out.set 4 rfl 1 _);clear dX
    go_wp2_with fail
    refine(rW jB.out (by omega) 40).mono ?_;rintro e wo ⟨bo,rfl,so⟩;have vS:Hid (St w wo [fG w g (hi+4),X,ah r 28 #[.int .i64 os,.slice G gn gc,.slice G' n' c',.slice D' dn dc,.int .i64 st],ah (r+1) 64 #[.int .i64 0,.int .i64 0],ah g5 64 #[.int .i64 0,.int .i64 y],ax (.slice A6 0 c6) may]):=af so;clear so jB
    cases bo with
    |false=>
     have qa:=vS.out.cells 4 rfl;have qb:=vS.out.cells 3 rfl;have fb:=vS.out.free 3 rfl;go_wp2;refine bodyPost_ret (v:=.agg #[.int .i64 0,.int .i64 y]) (by simp[results,Tryz.results102,go_sem,qb]) rfl ⟨0,y,rfl,hkv,by omega,?_⟩;exact((vS.out.set2 3 rfl (.int .i64 0) (.int .i64 y)).pick [0,1] (by decide) rfl rfl).more (by omega)
    |true=>
     go_upto_region 10 with(fail)
     refine kG (σ:={x:Int//0≤x∧x<120})
      (fun s i=>match i with
       |0=>.pointer (some ⟨g5,1,none⟩)
       |1=>.int .i64 y
       |2=>.pointer (some ⟨g,0,none⟩)
       |3=>.int .i64 s.1
       |4=>.int .i64 (y+s.1)
       |5=>.int .i64 (y+s.1-10)
       |6=>.pointer (some ⟨g5,1,none⟩)
       |_=>undef)
      (fun D s wz=>Sn w wz fun i=>match i with
       |0=>some (fG w g (hi+4+(D 3).toNat))
       |1=>some (X)
       |2=>some (ah r 28 #[.int .i64 os,.slice G gn gc,.slice G' n' c',.slice D' dn dc,.int .i64 st])
       |3=>some (ah (r+1) 64 #[.int .i64 0,.int .i64 0])
       |4=>some (ah g5 64 (if D 7=true then #[.int .i64 0,.int .i64 (y+s.1-10)] else #[.int .i64 0,.int .i64 y]))
       |5=>some (ax (.slice A6 0 c6) may)
       |_=>none)
      ⟨0,by omega,by omega⟩ ?_ ?_ ?_
     ·intro D hD;refine((Sn.dN vS.out).quiet ((ai _ _).drew)).congr fun i=>?_
      match i with
      |0=>simp only[hD 3 (by decide)];rfl
      |1 | 2 | 3=>rfl
      |4=>simp only[hD 7 (by decide)];rfl
      |5=>rfl
      |q+6=>rfl
     ·refine Cs (fun D s wz hR _ hd _ _ hs K hK=>?_) ?_
      ·have e5:=hs.o 5 (.pointer (some ⟨g5,0,none⟩));clear hs;go_simp;exact hK s wz sv hR
      refine Cs (fun D s wz hR hDi hd hsh _ hs K hK=>?_) ?_
      ·have e62:=hs.v 0 62 hd;clear hs;have n4:D 4=false:=hsh.no hDi 4 rfl ⟨1,.data⟩ (by simp) rfl rfl;have n5:D 5=false:=hsh.no n4 5 rfl ⟨4,.data⟩ (by simp) rfl rfl;have n7:D 7=false:=hsh.no n5 7 rfl ⟨5,.data⟩ (by simp) rfl rfl;have kb:fU wz g5 64 #[.int .i64 0,.int .i64 y]:=hR.blk 4 (by simp only[n7]<;>rfl);have qk:=kb.cell;go_simp;exact hK s wz sv hR
      refine Cs (fun D s wz hR _ hd _ _ hs K hK=>?_) ?_
      ·have e0:=hs.o 0 (.pointer (some ⟨g,0,none⟩));clear hs;go_simp;exact hK s wz sv hR
      refine Cs (fun D s wz hR (hDi:D 3=false) hd hsh _ hs K hK=>?_) ?_
      ·have e64:=hs.v 2 64 hd;have g64:=aX e64;clear hs;have n4:D 4=false:=hsh.no hDi 4 rfl ⟨3,.data⟩ (by simp) rfl rfl;have n5:D 5=false:=hsh.no n4 5 rfl ⟨4,.data⟩ (by simp) rfl rfl;have n7:D 7=false:=hsh.no n5 7 rfl ⟨5,.data⟩ (by simp) rfl rfl;go_simp;refine(hR.pick 0 rfl (by have:=sG (D 3);omega) 120).mono ?_;rintro e2 w2 ⟨x2,rfl,⟨b1,b2,-⟩,s2⟩;have b3:=b2 (by omega)
       refine hK ⟨x2,b1,b3⟩ w2
        (fun j hj=>by
         match j,hj with
         |0,hj | 1,hj | 2,hj=>rfl
         |3,hj=>rw[hDi] at hj;cases hj
         |4,hj=>rw[n4] at hj;cases hj
         |5,hj=>rw[n5] at hj;cases hj
         |6,hj=>rfl
         |7,hj=>rw[n7] at hj;cases hj
         |_+8,hj=>rfl)
        (s2.congr
         (fun i=>by
          match i with
          |0=>(show some (fG w g (hi+4+true.toNat))=some (fG w g (hi+4+(D 3).toNat+1));rw[hDi];rfl)
          |1 | 2 | 3=>rfl
          |4=>(show some (ah _ _ (if D 7=true then _ else _))=some (ah _ _ (if D 7=true then _ else _));rw[n7]<;>rfl)
          |5=>rfl
          |q+6=>exact(if_neg (show¬(q+6=0) by omega)).symm))
      refine Cs (fun D s wz hR _ hd _ _ hs K hK=>?_) ?_
      ·have e63:=hs.v 1 63 hd;have e65:=hs.v 3 65 hd;clear hs;have hs1:=s.2.1;have hs2:=s.2.2;have hw:IntKind.i64.wrap (y+s.1)=y+s.1:=by rw[IntKind.wrap_i64];omega
       go_simp;exact hK s wz sv hR
      refine Cs (fun D s wz hR _ hd _ _ hs K hK=>?_) ?_
      ·have YD:=hs.v 4 66 hd;clear hs;have hs1:=s.2.1;have hs2:=s.2.2;have hw:IntKind.i64.wrap (y+s.1-10)=y+s.1-10:=by rw[IntKind.wrap_i64];omega
       go_simp;exact hK s wz sv hR
      refine Cs (fun D s wz hR _ hd _ _ hs K hK=>?_) ?_
      ·have e5:=hs.o 5 (.pointer (some ⟨g5,0,none⟩));clear hs;go_simp;exact hK s wz sv hR
      refine Cs (fun D s wz hR (hDi:D 7=false) hd _ _ hs K hK=>?_) ?_
      ·have UC:=hs.v 6 68 hd;have Qd:=hs.v 5 67 hd;clear hs;have kb:fU wz g5 64 #[.int .i64 0,.int .i64 y]:=hR.blk 4 (by simp only[hDi]<;>rfl);have f0:=kb.frozen;have qk:=kb.cell;go_simp
       exact hK s _ sv ((hR.set 4 (cs:=#[.int .i64 0,.int .i64 y]) (by simp only[hDi];rfl) 1 _).congr
        (fun i=>by
         match i with
         |0 | 1 | 2 | 3 | 4 | 5=>rfl
         |q+6=>exact(if_neg (show¬(q+6=4) by omega)).symm))
      exact aj.nil
     ·intro D s wz hR hD;simp only[eH,Act.put,aO,aU,aW];obtain⟨x,hx0,hx1⟩:=s;have rC:Hid (St w wz [fG w g (hi+5),X,ah r 28 #[.int .i64 os,.slice G gn gc,.slice G' n' c',.slice D' dn dc,.int .i64 st],ah (r+1) 64 #[.int .i64 0,.int .i64 0],ah g5 64 #[.int .i64 0,.int .i64 (y+x-10)]]):=af (hR.eG [0,1,2,3,4] (by decide) (by simp only[List.map,hD 3 (by decide),hD 7 (by decide)]<;>rfl));clear hR hD vS;have qa:=rC.out.cells 4 rfl;have qb:=rC.out.cells 3 rfl;have fb:=rC.out.free 3 rfl;go_wp2;refine bodyPost_ret (v:=.agg #[.int .i64 0,.int .i64 (y+x-10)]) (by simp[results,Tryz.results102,go_sem,qb]) rfl ⟨0,y+x-10,rfl,hkv,by omega,?_⟩;exact((rC.out.set2 3 rfl (.int .i64 0) (.int .i64 (y+x-10))).pick [0,1] (by decide) rfl rfl).more (by omega)
   ·have ae3:(0:Int)<(ml:Int):=by omega
    go_wp2_with fail
    refine(dQ cu.out (by omega) 8).mono ?_;rintro e w_z ⟨z,rfl,⟨z1,z2,-⟩,s_z⟩;have z3:=z2 (by omega);have fH:Hid (St w w_z [fG w g (hi+3),X,ah r 28 #[.int .i64 os,.slice G gn gc,.slice G' n' c',.slice D' dn dc,.int .i64 st],ah (r+1) 64 #[.int .i64 0,.int .i64 0],ah g5 64 #[.int .i64 0,.int .i64 0],ax (.slice A6 ml c6) may]):=af s_z;clear s_z z2 cu;have q5:=fH.out.cells 4 rfl;have f5:=fH.out.free 4 rfl
    by_cases hz0:z=0
    ·subst hz0
     go_wp2_with fail
     refine(dQ fH.out (by omega) 7).mono ?_;rintro e UA ⟨y,rfl,⟨y1,y2,-⟩,UB⟩;have y3:=y2 (by omega);have dX:Hid (St w UA [fG w g (hi+4),X,ah r 28 #[.int .i64 os,.slice G gn gc,.slice G' n' c',.slice D' dn dc,.int .i64 st],ah (r+1) 64 #[.int .i64 0,.int .i64 0],ah g5 64 #[.int .i64 0,.int .i64 0],ax (.slice A6 ml c6) may]):=af UB;clear UB y2 fH;have q5:=dX.out.cells 4 rfl;have f5:=dX.out.free 4 rfl;have jB:Hid (St w (UA.setCell ⟨g5,1,none⟩ (.int .i64 y)) [fG w g (hi+4),X,ah r 28 #[.int .i64 os,.slice G gn gc,.slice G' n' c',.slice D' dn dc,.int .i64 st],ah (r+1) 64 #[.int .i64 0,.int .i64 0],ah g5 64 #[.int .i64 0,.int .i64 y],ax (.slice A6 ml c6) may]):=af (dX.out.set 4 rfl 1 _);clear dX
     go_wp2_with fail
     refine(rW jB.out (by omega) 40).mono ?_;rintro e wo ⟨bo,rfl,so⟩;have vS:Hid (St w wo [fG w g (hi+5),X,ah r 28 #[.int .i64 os,.slice G gn gc,.slice G' n' c',.slice D' dn dc,.int .i64 st],ah (r+1) 64 #[.int .i64 0,.int .i64 0],ah g5 64 #[.int .i64 0,.int .i64 y],ax (.slice A6 ml c6) may]):=af so;clear so jB
     cases bo with
     |false=>
      have qa:=vS.out.cells 4 rfl;have qb:=vS.out.cells 3 rfl;have fb:=vS.out.free 3 rfl;go_wp2;refine bodyPost_ret (v:=.agg #[.int .i64 0,.int .i64 y]) (by simp[results,Tryz.results102,go_sem,qb]) rfl ⟨0,y,rfl,hkv,by omega,?_⟩;exact((vS.out.set2 3 rfl (.int .i64 0) (.int .i64 y)).pick [0,1] (by decide) rfl rfl).more (by omega)
     |true=>
      go_upto_region 10 with(fail)
      refine kG (σ:={x:Int//0≤x∧x<120})
       (fun s i=>match i with
        |0=>.pointer (some ⟨g5,1,none⟩)
        |1=>.int .i64 y
        |2=>.pointer (some ⟨g,0,none⟩)
        |3=>.int .i64 s.1
        |4=>.int .i64 (y+s.1)
        |5=>.int .i64 (y+s.1-10)
        |6=>.pointer (some ⟨g5,1,none⟩)
        |_=>undef)
       (fun D s wz=>Sn w wz fun i=>match i with
        |0=>some (fG w g (hi+5+(D 3).toNat))
        |1=>some (X)
        |2=>some (ah r 28 #[.int .i64 os,.slice G gn gc,.slice G' n' c',.slice D' dn dc,.int .i64 st])
        |3=>some (ah (r+1) 64 #[.int .i64 0,.int .i64 0])
        |4=>some (ah g5 64 (if D 7=true then #[.int .i64 0,.int .i64 (y+s.1-10)] else #[.int .i64 0,.int .i64 y]))
        |5=>some (ax (.slice A6 ml c6) may)
        |_=>none)
       ⟨0,by omega,by omega⟩ ?_ ?_ ?_
      ·intro D hD;refine((Sn.dN vS.out).quiet ((ai _ _).drew)).congr fun i=>?_
       match i with
       |0=>simp only[hD 3 (by decide)];rfl
       |1 | 2 | 3=>rfl
       |4=>simp only[hD 7 (by decide)];rfl
       |5=>rfl
       |q+6=>rfl
      ·refine Cs (fun D s wz hR _ hd _ _ hs K hK=>?_) ?_
       ·have e5:=hs.o 5 (.pointer (some ⟨g5,0,none⟩));clear hs;go_simp;exact hK s wz sv hR
       refine Cs (fun D s wz hR hDi hd hsh _ hs K hK=>?_) ?_
       ·have e62:=hs.v 0 62 hd;clear hs;have n4:D 4=false:=hsh.no hDi 4 rfl ⟨1,.data⟩ (by simp) rfl rfl;have n5:D 5=false:=hsh.no n4 5 rfl ⟨4,.data⟩ (by simp) rfl rfl;have n7:D 7=false:=hsh.no n5 7 rfl ⟨5,.data⟩ (by simp) rfl rfl;have kb:fU wz g5 64 #[.int .i64 0,.int .i64 y]:=hR.blk 4 (by simp only[n7]<;>rfl);have qk:=kb.cell;go_simp;exact hK s wz sv hR
       refine Cs (fun D s wz hR _ hd _ _ hs K hK=>?_) ?_
       ·have e0:=hs.o 0 (.pointer (some ⟨g,0,none⟩));clear hs;go_simp;exact hK s wz sv hR
       refine Cs (fun D s wz hR (hDi:D 3=false) hd hsh _ hs K hK=>?_) ?_
       ·have e64:=hs.v 2 64 hd;have g64:=aX e64;clear hs;have n4:D 4=false:=hsh.no hDi 4 rfl ⟨3,.data⟩ (by simp) rfl rfl;have n5:D 5=false:=hsh.no n4 5 rfl ⟨4,.data⟩ (by simp) rfl rfl;have n7:D 7=false:=hsh.no n5 7 rfl ⟨5,.data⟩ (by simp) rfl rfl;go_simp;refine(hR.pick 0 rfl (by have:=sG (D 3);omega) 120).mono ?_;rintro e2 w2 ⟨x2,rfl,⟨b1,b2,-⟩,s2⟩;have b3:=b2 (by omega)
        refine hK ⟨x2,b1,b3⟩ w2
         (fun j hj=>by
          match j,hj with
          |0,hj | 1,hj | 2,hj=>rfl
          |3,hj=>rw[hDi] at hj;cases hj
          |4,hj=>rw[n4] at hj;cases hj
          |5,hj=>rw[n5] at hj;cases hj
          |6,hj=>rfl
          |7,hj=>rw[n7] at hj;cases hj
          |_+8,hj=>rfl)
         (s2.congr
          (fun i=>by
           match i with
           |0=>(show some (fG w g (hi+5+true.toNat))=some (fG w g (hi+5+(D 3).toNat+1));rw[hDi];rfl)
           |1 | 2 | 3=>rfl
           |4=>(show some (ah _ _ (if D 7=true then _ else _))=some (ah _ _ (if D 7=true then _ else _));rw[n7]<;>rfl)
           |5=>rfl
           |q+6=>exact(if_neg (show¬(q+6=0) by omega)).symm))
       refine Cs (fun D s wz hR _ hd _ _ hs K hK=>?_) ?_
       ·have e63:=hs.v 1 63 hd;have e65:=hs.v 3 65 hd;clear hs;have hs1:=s.2.1;have hs2:=s.2.2;have hw:IntKind.i64.wrap (y+s.1)=y+s.1:=by rw[IntKind.wrap_i64];omega
        go_simp;exact hK s wz sv hR
       refine Cs (fun D s wz hR _ hd _ _ hs K hK=>?_) ?_
       ·have YD:=hs.v 4 66 hd;clear hs;have hs1:=s.2.1;have hs2:=s.2.2;have hw:IntKind.i64.wrap (y+s.1-10)=y+s.1-10:=by rw[IntKind.wrap_i64];omega
        go_simp;exact hK s wz sv hR
       refine Cs (fun D s wz hR _ hd _ _ hs K hK=>?_) ?_
       ·have e5:=hs.o 5 (.pointer (some ⟨g5,0,none⟩));clear hs;go_simp;exact hK s wz sv hR
       refine Cs (fun D s wz hR (hDi:D 7=false) hd _ _ hs K hK=>?_) ?_
       ·have UC:=hs.v 6 68 hd;have Qd:=hs.v 5 67 hd;clear hs;have kb:fU wz g5 64 #[.int .i64 0,.int .i64 y]:=hR.blk 4 (by simp only[hDi]<;>rfl);have f0:=kb.frozen;have qk:=kb.cell;go_simp
        exact hK s _ sv ((hR.set 4 (cs:=#[.int .i64 0,.int .i64 y]) (by simp only[hDi];rfl) 1 _).congr
         (fun i=>by
          match i with
          |0 | 1 | 2 | 3 | 4 | 5=>rfl
          |q+6=>exact(if_neg (show¬(q+6=4) by omega)).symm))
       exact aj.nil
      ·intro D s wz hR hD;simp only[eH,Act.put,aO,aU,aW];obtain⟨x,hx0,hx1⟩:=s;have rC:Hid (St w wz [fG w g (hi+6),X,ah r 28 #[.int .i64 os,.slice G gn gc,.slice G' n' c',.slice D' dn dc,.int .i64 st],ah (r+1) 64 #[.int .i64 0,.int .i64 0],ah g5 64 #[.int .i64 0,.int .i64 (y+x-10)]]):=af (hR.eG [0,1,2,3,4] (by decide) (by simp only[List.map,hD 3 (by decide),hD 7 (by decide)]<;>rfl));clear hR hD vS;have qa:=rC.out.cells 4 rfl;have qb:=rC.out.cells 3 rfl;have fb:=rC.out.free 3 rfl;go_wp2;refine bodyPost_ret (v:=.agg #[.int .i64 0,.int .i64 (y+x-10)]) (by simp[results,Tryz.results102,go_sem,qb]) rfl ⟨0,y+x-10,rfl,hkv,by omega,?_⟩;exact((rC.out.set2 3 rfl (.int .i64 0) (.int .i64 (y+x-10))).pick [0,1] (by decide) rfl rfl).more (by omega)
    ·have hzi:(0:Int)<z:=by omega
     go_wp2_with fail
     refine(dQ fH.out (by omega) (ml:Int)).mono ?_;rintro e UA ⟨y,rfl,⟨y1,y2,-⟩,UB⟩;have y3:=y2 (by omega);have dX:Hid (St w UA [fG w g (hi+4),X,ah r 28 #[.int .i64 os,.slice G gn gc,.slice G' n' c',.slice D' dn dc,.int .i64 st],ah (r+1) 64 #[.int .i64 0,.int .i64 0],ah g5 64 #[.int .i64 0,.int .i64 0],ax (.slice A6 ml c6) may]):=af UB;clear UB y2 fH;obtain⟨yn,rfl⟩:=bC y1;have hyn:yn<ml:=by omega
     have hxy:may[yn]? =some (may[yn]'(by rw[HML.out];exact hyn)):=bH _;obtain⟨d,hd⟩:∃d,may[yn]'(by rw[HML.out];exact hyn)=d:=⟨_,rfl⟩;rw[hd] at hxy;have hdb:0≤d∧d<6:=uJ (t:=b.order) (s:=st) (by rw[DC.out];exact bT hxy);obtain⟨bb,off,nu,hA6,hbb,hx2,-,hcx⟩:=(dX.out.oZ 5 rfl).get (show yn<ml from hyn);subst hA6;obtain rfl:nu=d:=by have:=hx2.symm.trans hxy;injection this
     clear hd hxy hx2;have q5:=dX.out.cells 4 rfl;have f5:=dX.out.free 4 rfl;have jB:Hid (St w (UA.setCell ⟨g5,1,none⟩ (.int .i64 nu)) [fG w g (hi+4),X,ah r 28 #[.int .i64 os,.slice G gn gc,.slice G' n' c',.slice D' dn dc,.int .i64 st],ah (r+1) 64 #[.int .i64 0,.int .i64 0],ah g5 64 #[.int .i64 0,.int .i64 nu],ax (.slice (some ⟨bb,off,none⟩) ml c6) may]):=af (dX.out.set 4 rfl 1 _);clear dX
     go_wp2_with fail
     refine(rW jB.out (by omega) 40).mono ?_;rintro e wo ⟨bo,rfl,so⟩;have vS:Hid (St w wo [fG w g (hi+5),X,ah r 28 #[.int .i64 os,.slice G gn gc,.slice G' n' c',.slice D' dn dc,.int .i64 st],ah (r+1) 64 #[.int .i64 0,.int .i64 0],ah g5 64 #[.int .i64 0,.int .i64 nu],ax (.slice (some ⟨bb,off,none⟩) ml c6) may]):=af so;clear so jB
     cases bo with
     |false=>
      have qa:=vS.out.cells 4 rfl;have qb:=vS.out.cells 3 rfl;have fb:=vS.out.free 3 rfl;go_wp2;refine bodyPost_ret (v:=.agg #[.int .i64 0,.int .i64 nu]) (by simp[results,Tryz.results102,go_sem,qb]) rfl ⟨0,nu,rfl,hkv,by omega,?_⟩;exact((vS.out.set2 3 rfl (.int .i64 0) (.int .i64 nu)).pick [0,1] (by decide) rfl rfl).more (by omega)
     |true=>
      go_upto_region 10 with(fail)
      refine kG (σ:={x:Int//0≤x∧x<120})
       (fun s i=>match i with
        |0=>.pointer (some ⟨g5,1,none⟩)
        |1=>.int .i64 nu
        |2=>.pointer (some ⟨g,0,none⟩)
        |3=>.int .i64 s.1
        |4=>.int .i64 (nu+s.1)
        |5=>.int .i64 (nu+s.1-10)
        |6=>.pointer (some ⟨g5,1,none⟩)
        |_=>undef)
       (fun D s wz=>Sn w wz fun i=>match i with
        |0=>some (fG w g (hi+5+(D 3).toNat))
        |1=>some (X)
        |2=>some (ah r 28 #[.int .i64 os,.slice G gn gc,.slice G' n' c',.slice D' dn dc,.int .i64 st])
        |3=>some (ah (r+1) 64 #[.int .i64 0,.int .i64 0])
        |4=>some (ah g5 64 (if D 7=true then #[.int .i64 0,.int .i64 (nu+s.1-10)] else #[.int .i64 0,.int .i64 nu]))
        |5=>some (ax (.slice (some ⟨bb,off,none⟩) ml c6) may)
        |_=>none)
       ⟨0,by omega,by omega⟩ ?_ ?_ ?_
      ·intro D hD;refine((Sn.dN vS.out).quiet ((ai _ _).drew)).congr fun i=>?_
       match i with
       |0=>simp only[hD 3 (by decide)];rfl
       |1 | 2 | 3=>rfl
       |4=>simp only[hD 7 (by decide)];rfl
       |5=>rfl
       |q+6=>rfl
      ·refine Cs (fun D s wz hR _ hd _ _ hs K hK=>?_) ?_
       ·have e5:=hs.o 5 (.pointer (some ⟨g5,0,none⟩));clear hs;go_simp;exact hK s wz sv hR
       refine Cs (fun D s wz hR hDi hd hsh _ hs K hK=>?_) ?_
       ·have e62:=hs.v 0 62 hd;clear hs;have n4:D 4=false:=hsh.no hDi 4 rfl ⟨1,.data⟩ (by simp) rfl rfl;have n5:D 5=false:=hsh.no n4 5 rfl ⟨4,.data⟩ (by simp) rfl rfl;have n7:D 7=false:=hsh.no n5 7 rfl ⟨5,.data⟩ (by simp) rfl rfl;have kb:fU wz g5 64 #[.int .i64 0,.int .i64 nu]:=hR.blk 4 (by simp only[n7]<;>rfl);have qk:=kb.cell;go_simp;exact hK s wz sv hR
       refine Cs (fun D s wz hR _ hd _ _ hs K hK=>?_) ?_
       ·have e0:=hs.o 0 (.pointer (some ⟨g,0,none⟩));clear hs;go_simp;exact hK s wz sv hR
       refine Cs (fun D s wz hR (hDi:D 3=false) hd hsh _ hs K hK=>?_) ?_
       ·have e64:=hs.v 2 64 hd;have g64:=aX e64;clear hs;have n4:D 4=false:=hsh.no hDi 4 rfl ⟨3,.data⟩ (by simp) rfl rfl;have n5:D 5=false:=hsh.no n4 5 rfl ⟨4,.data⟩ (by simp) rfl rfl;have n7:D 7=false:=hsh.no n5 7 rfl ⟨5,.data⟩ (by simp) rfl rfl;go_simp;refine(hR.pick 0 rfl (by have:=sG (D 3);omega) 120).mono ?_;rintro e2 w2 ⟨x2,rfl,⟨b1,b2,-⟩,s2⟩;have b3:=b2 (by omega)
        refine hK ⟨x2,b1,b3⟩ w2
         (fun j hj=>by
          match j,hj with
          |0,hj | 1,hj | 2,hj=>rfl
          |3,hj=>rw[hDi] at hj;cases hj
          |4,hj=>rw[n4] at hj;cases hj
          |5,hj=>rw[n5] at hj;cases hj
          |6,hj=>rfl
          |7,hj=>rw[n7] at hj;cases hj
          |_+8,hj=>rfl)
         (s2.congr
          (fun i=>by
           match i with
           |0=>(show some (fG w g (hi+5+true.toNat))=some (fG w g (hi+5+(D 3).toNat+1));rw[hDi];rfl)
           |1 | 2 | 3=>rfl
           |4=>(show some (ah _ _ (if D 7=true then _ else _))=some (ah _ _ (if D 7=true then _ else _));rw[n7]<;>rfl)
           |5=>rfl
           |q+6=>exact(if_neg (show¬(q+6=0) by omega)).symm))
       refine Cs (fun D s wz hR _ hd _ _ hs K hK=>?_) ?_
       ·have e63:=hs.v 1 63 hd;have e65:=hs.v 3 65 hd;clear hs;have hs1:=s.2.1;have hs2:=s.2.2;have hw:IntKind.i64.wrap (nu+s.1)=nu+s.1:=by rw[IntKind.wrap_i64];omega
        go_simp;exact hK s wz sv hR
       refine Cs (fun D s wz hR _ hd _ _ hs K hK=>?_) ?_
       ·have YD:=hs.v 4 66 hd;clear hs;have hs1:=s.2.1;have hs2:=s.2.2;have hw:IntKind.i64.wrap (nu+s.1-10)=nu+s.1-10:=by rw[IntKind.wrap_i64];omega
        go_simp;exact hK s wz sv hR
       refine Cs (fun D s wz hR _ hd _ _ hs K hK=>?_) ?_
       ·have e5:=hs.o 5 (.pointer (some ⟨g5,0,none⟩));clear hs;go_simp;exact hK s wz sv hR
       refine Cs (fun D s wz hR (hDi:D 7=false) hd _ _ hs K hK=>?_) ?_
       ·have UC:=hs.v 6 68 hd;have Qd:=hs.v 5 67 hd;clear hs;have kb:fU wz g5 64 #[.int .i64 0,.int .i64 nu]:=hR.blk 4 (by simp only[hDi]<;>rfl);have f0:=kb.frozen;have qk:=kb.cell;go_simp
        exact hK s _ sv ((hR.set 4 (cs:=#[.int .i64 0,.int .i64 nu]) (by simp only[hDi];rfl) 1 _).congr
         (fun i=>by
          match i with
          |0 | 1 | 2 | 3 | 4 | 5=>rfl
          |q+6=>exact(if_neg (show¬(q+6=4) by omega)).symm))
       exact aj.nil
      ·intro D s wz hR hD;simp only[eH,Act.put,aO,aU,aW];obtain⟨x,hx0,hx1⟩:=s;have rC:Hid (St w wz [fG w g (hi+6),X,ah r 28 #[.int .i64 os,.slice G gn gc,.slice G' n' c',.slice D' dn dc,.int .i64 st],ah (r+1) 64 #[.int .i64 0,.int .i64 0],ah g5 64 #[.int .i64 0,.int .i64 (nu+x-10)]]):=af (hR.eG [0,1,2,3,4] (by decide) (by simp only[List.map,hD 3 (by decide),hD 7 (by decide)]<;>rfl));clear hR hD vS;have qa:=rC.out.cells 4 rfl;have qb:=rC.out.cells 3 rfl;have fb:=rC.out.free 3 rfl;go_wp2;refine bodyPost_ret (v:=.agg #[.int .i64 0,.int .i64 (nu+x-10)]) (by simp[results,Tryz.results102,go_sem,qb]) rfl ⟨0,nu+x-10,rfl,hkv,by omega,?_⟩;exact((rC.out.set2 3 rfl (.int .i64 0) (.int .i64 (nu+x-10))).pick [0,1] (by decide) rfl rfl).more (by omega)
  ·have hk0':(kv == 0)=false:=by simpa using hk0
   by_cases hk1:kv=1
   ·subst hk1
    go_wp2_with fail
    refine(dQ cu.out (by omega) 3).mono ?_;rintro e UA ⟨y,rfl,⟨y1,y2,-⟩,UB⟩;have y3:=y2 (by omega);have dX:Hid (St w UA [fG w g (hi+3),X,ah r 28 #[.int .i64 os,.slice G gn gc,.slice G' n' c',.slice D' dn dc,.int .i64 st],ah (r+1) 64 #[.int .i64 0,.int .i64 0],ah g5 64 #[.int .i64 1,.int .i64 0],ax (.slice A6 ml c6) may]):=af UB;clear UB y2 cu;have q5:=dX.out.cells 4 rfl;have f5:=dX.out.free 4 rfl;have hyw:IntKind.i64.wrap (1+y)=1+y:=by rw[IntKind.wrap_i64];omega
    have jB:Hid (St w (UA.setCell ⟨g5,1,none⟩ (.int .i64 (1+y))) [fG w g (hi+3),X,ah r 28 #[.int .i64 os,.slice G gn gc,.slice G' n' c',.slice D' dn dc,.int .i64 st],ah (r+1) 64 #[.int .i64 0,.int .i64 0],ah g5 64 #[.int .i64 1,.int .i64 (1+y)],ax (.slice A6 ml c6) may]):=af (dX.out.set 4 rfl 1 _);clear dX
    go_wp2_with fail
    refine(rW jB.out (by omega) 40).mono ?_;rintro e wo ⟨bo,rfl,so⟩;have vS:Hid (St w wo [fG w g (hi+4),X,ah r 28 #[.int .i64 os,.slice G gn gc,.slice G' n' c',.slice D' dn dc,.int .i64 st],ah (r+1) 64 #[.int .i64 0,.int .i64 0],ah g5 64 #[.int .i64 1,.int .i64 (1+y)],ax (.slice A6 ml c6) may]):=af so;clear so jB
    cases bo with
    |false=>
     have qa:=vS.out.cells 4 rfl;have qb:=vS.out.cells 3 rfl;have fb:=vS.out.free 3 rfl;go_wp2;refine bodyPost_ret (v:=.agg #[.int .i64 1,.int .i64 (1+y)]) (by simp[results,Tryz.results102,go_sem,qb]) rfl ⟨1,(1+y),rfl,hkv,by omega,?_⟩;exact((vS.out.set2 3 rfl (.int .i64 1) (.int .i64 (1+y))).pick [0,1] (by decide) rfl rfl).more (by omega)
    |true=>
     go_upto_region 10 with(fail)
     refine kG (σ:={x:Int//0≤x∧x<120})
      (fun s i=>match i with
       |0=>.pointer (some ⟨g5,1,none⟩)
       |1=>.int .i64 (1+y)
       |2=>.pointer (some ⟨g,0,none⟩)
       |3=>.int .i64 s.1
       |4=>.int .i64 ((1+y)+s.1)
       |5=>.int .i64 ((1+y)+s.1-10)
       |6=>.pointer (some ⟨g5,1,none⟩)
       |_=>undef)
      (fun D s wz=>Sn w wz fun i=>match i with
       |0=>some (fG w g (hi+4+(D 3).toNat))
       |1=>some (X)
       |2=>some (ah r 28 #[.int .i64 os,.slice G gn gc,.slice G' n' c',.slice D' dn dc,.int .i64 st])
       |3=>some (ah (r+1) 64 #[.int .i64 0,.int .i64 0])
       |4=>some (ah g5 64 (if D 7=true then #[.int .i64 1,.int .i64 ((1+y)+s.1-10)] else #[.int .i64 1,.int .i64 (1+y)]))
       |5=>some (ax (.slice A6 ml c6) may)
       |_=>none)
      ⟨0,by omega,by omega⟩ ?_ ?_ ?_
     ·intro D hD;refine((Sn.dN vS.out).quiet ((ai _ _).drew)).congr fun i=>?_
      match i with
      |0=>simp only[hD 3 (by decide)];rfl
      |1 | 2 | 3=>rfl
      |4=>simp only[hD 7 (by decide)];rfl
      |5=>rfl
      |q+6=>rfl
     ·refine Cs (fun D s wz hR _ hd _ _ hs K hK=>?_) ?_
      ·have e5:=hs.o 5 (.pointer (some ⟨g5,0,none⟩));clear hs;go_simp;exact hK s wz sv hR
      refine Cs (fun D s wz hR hDi hd hsh _ hs K hK=>?_) ?_
      ·have e62:=hs.v 0 62 hd;clear hs;have n4:D 4=false:=hsh.no hDi 4 rfl ⟨1,.data⟩ (by simp) rfl rfl;have n5:D 5=false:=hsh.no n4 5 rfl ⟨4,.data⟩ (by simp) rfl rfl;have n7:D 7=false:=hsh.no n5 7 rfl ⟨5,.data⟩ (by simp) rfl rfl;have kb:fU wz g5 64 #[.int .i64 1,.int .i64 (1+y)]:=hR.blk 4 (by simp only[n7]<;>rfl);have qk:=kb.cell;go_simp;exact hK s wz sv hR
      refine Cs (fun D s wz hR _ hd _ _ hs K hK=>?_) ?_
      ·have e0:=hs.o 0 (.pointer (some ⟨g,0,none⟩));clear hs;go_simp;exact hK s wz sv hR
      refine Cs (fun D s wz hR (hDi:D 3=false) hd hsh _ hs K hK=>?_) ?_
      ·have e64:=hs.v 2 64 hd;have g64:=aX e64;clear hs;have n4:D 4=false:=hsh.no hDi 4 rfl ⟨3,.data⟩ (by simp) rfl rfl;have n5:D 5=false:=hsh.no n4 5 rfl ⟨4,.data⟩ (by simp) rfl rfl;have n7:D 7=false:=hsh.no n5 7 rfl ⟨5,.data⟩ (by simp) rfl rfl;go_simp;refine(hR.pick 0 rfl (by have:=sG (D 3);omega) 120).mono ?_;rintro e2 w2 ⟨x2,rfl,⟨b1,b2,-⟩,s2⟩;have b3:=b2 (by omega)
       refine hK ⟨x2,b1,b3⟩ w2
        (fun j hj=>by
         match j,hj with
         |0,hj | 1,hj | 2,hj=>rfl
         |3,hj=>rw[hDi] at hj;cases hj
         |4,hj=>rw[n4] at hj;cases hj
         |5,hj=>rw[n5] at hj;cases hj
         |6,hj=>rfl
         |7,hj=>rw[n7] at hj;cases hj
         |_+8,hj=>rfl)
        (s2.congr
         (fun i=>by
          match i with
          |0=>(show some (fG w g (hi+4+true.toNat))=some (fG w g (hi+4+(D 3).toNat+1));rw[hDi];rfl)
          |1 | 2 | 3=>rfl
          |4=>(show some (ah _ _ (if D 7=true then _ else _))=some (ah _ _ (if D 7=true then _ else _));rw[n7]<;>rfl)
          |5=>rfl
          |q+6=>exact(if_neg (show¬(q+6=0) by omega)).symm))
      refine Cs (fun D s wz hR _ hd _ _ hs K hK=>?_) ?_
      ·have e63:=hs.v 1 63 hd;have e65:=hs.v 3 65 hd;clear hs;have hs1:=s.2.1;have hs2:=s.2.2;have hw:IntKind.i64.wrap ((1+y)+s.1)=(1+y)+s.1:=by rw[IntKind.wrap_i64];omega
       go_simp;exact hK s wz sv hR
      refine Cs (fun D s wz hR _ hd _ _ hs K hK=>?_) ?_
      ·have YD:=hs.v 4 66 hd;clear hs;have hs1:=s.2.1;have hs2:=s.2.2;have hw:IntKind.i64.wrap ((1+y)+s.1-10)=(1+y)+s.1-10:=by rw[IntKind.wrap_i64];omega
       go_simp;exact hK s wz sv hR
      refine Cs (fun D s wz hR _ hd _ _ hs K hK=>?_) ?_
      ·have e5:=hs.o 5 (.pointer (some ⟨g5,0,none⟩));clear hs;go_simp;exact hK s wz sv hR
      refine Cs (fun D s wz hR (hDi:D 7=false) hd _ _ hs K hK=>?_) ?_
      ·have UC:=hs.v 6 68 hd;have Qd:=hs.v 5 67 hd;clear hs;have kb:fU wz g5 64 #[.int .i64 1,.int .i64 (1+y)]:=hR.blk 4 (by simp only[hDi]<;>rfl);have f0:=kb.frozen;have qk:=kb.cell;go_simp
       exact hK s _ sv ((hR.set 4 (cs:=#[.int .i64 1,.int .i64 (1+y)]) (by simp only[hDi];rfl) 1 _).congr
        (fun i=>by
         match i with
         |0 | 1 | 2 | 3 | 4 | 5=>rfl
         |q+6=>exact(if_neg (show¬(q+6=4) by omega)).symm))
      exact aj.nil
     ·intro D s wz hR hD;simp only[eH,Act.put,aO,aU,aW];obtain⟨x,hx0,hx1⟩:=s;have rC:Hid (St w wz [fG w g (hi+5),X,ah r 28 #[.int .i64 os,.slice G gn gc,.slice G' n' c',.slice D' dn dc,.int .i64 st],ah (r+1) 64 #[.int .i64 0,.int .i64 0],ah g5 64 #[.int .i64 1,.int .i64 ((1+y)+x-10)]]):=af (hR.eG [0,1,2,3,4] (by decide) (by simp only[List.map,hD 3 (by decide),hD 7 (by decide)]<;>rfl));clear hR hD vS;have qa:=rC.out.cells 4 rfl;have qb:=rC.out.cells 3 rfl;have fb:=rC.out.free 3 rfl;go_wp2;refine bodyPost_ret (v:=.agg #[.int .i64 1,.int .i64 ((1+y)+x-10)]) (by simp[results,Tryz.results102,go_sem,qb]) rfl ⟨1,(1+y)+x-10,rfl,hkv,by omega,?_⟩;exact((rC.out.set2 3 rfl (.int .i64 1) (.int .i64 ((1+y)+x-10))).pick [0,1] (by decide) rfl rfl).more (by omega)
   ·have ae4:(kv == 1)=false:=by simpa using hk1
    clear hk0 hk1
    go_wp2_with fail
    refine(rW cu.out (by omega) 40).mono ?_;rintro e wo ⟨bo,rfl,so⟩;have vS:Hid (St w wo [fG w g (hi+3),X,ah r 28 #[.int .i64 os,.slice G gn gc,.slice G' n' c',.slice D' dn dc,.int .i64 st],ah (r+1) 64 #[.int .i64 0,.int .i64 0],ah g5 64 #[.int .i64 kv,.int .i64 0],ax (.slice A6 ml c6) may]):=af so;clear so cu
    cases bo with
    |false=>
     have qa:=vS.out.cells 4 rfl;have qb:=vS.out.cells 3 rfl;have fb:=vS.out.free 3 rfl;go_wp2;refine bodyPost_ret (v:=.agg #[.int .i64 kv,.int .i64 0]) (by simp[results,Tryz.results102,go_sem,qb]) rfl ⟨kv,0,rfl,hkv,by omega,?_⟩;exact((vS.out.set2 3 rfl (.int .i64 kv) (.int .i64 0)).pick [0,1] (by decide) rfl rfl).more (by omega)
    |true=>
     go_upto_region 10 with(fail)
     refine kG (σ:={x:Int//0≤x∧x<120})
      (fun s i=>match i with
       |0=>.pointer (some ⟨g5,1,none⟩)
       |1=>.int .i64 0
       |2=>.pointer (some ⟨g,0,none⟩)
       |3=>.int .i64 s.1
       |4=>.int .i64 (s.1)
       |5=>.int .i64 (s.1-10)
       |6=>.pointer (some ⟨g5,1,none⟩)
       |_=>undef)
      (fun D s wz=>Sn w wz fun i=>match i with
       |0=>some (fG w g (hi+3+(D 3).toNat))
       |1=>some (X)
       |2=>some (ah r 28 #[.int .i64 os,.slice G gn gc,.slice G' n' c',.slice D' dn dc,.int .i64 st])
       |3=>some (ah (r+1) 64 #[.int .i64 0,.int .i64 0])
       |4=>some (ah g5 64 (if D 7=true then #[.int .i64 kv,.int .i64 (s.1-10)] else #[.int .i64 kv,.int .i64 0]))
       |5=>some (ax (.slice A6 ml c6) may)
       |_=>none)
      ⟨0,by omega,by omega⟩ ?_ ?_ ?_
     ·intro D hD;refine((Sn.dN vS.out).quiet ((ai _ _).drew)).congr fun i=>?_
      match i with
      |0=>simp only[hD 3 (by decide)];rfl
      |1 | 2 | 3=>rfl
      |4=>simp only[hD 7 (by decide)];rfl
      |5=>rfl
      |q+6=>rfl
     ·refine Cs (fun D s wz hR _ hd _ _ hs K hK=>?_) ?_
      ·have e5:=hs.o 5 (.pointer (some ⟨g5,0,none⟩));clear hs;go_simp;exact hK s wz sv hR
      refine Cs (fun D s wz hR hDi hd hsh _ hs K hK=>?_) ?_
      ·have e62:=hs.v 0 62 hd;clear hs;have n4:D 4=false:=hsh.no hDi 4 rfl ⟨1,.data⟩ (by simp) rfl rfl;have n5:D 5=false:=hsh.no n4 5 rfl ⟨4,.data⟩ (by simp) rfl rfl;have n7:D 7=false:=hsh.no n5 7 rfl ⟨5,.data⟩ (by simp) rfl rfl;have kb:fU wz g5 64 #[.int .i64 kv,.int .i64 0]:=hR.blk 4 (by simp only[n7]<;>rfl);have qk:=kb.cell;go_simp;exact hK s wz sv hR
      refine Cs (fun D s wz hR _ hd _ _ hs K hK=>?_) ?_
      ·have e0:=hs.o 0 (.pointer (some ⟨g,0,none⟩));clear hs;go_simp;exact hK s wz sv hR
      refine Cs (fun D s wz hR (hDi:D 3=false) hd hsh _ hs K hK=>?_) ?_
      ·have e64:=hs.v 2 64 hd;have g64:=aX e64;clear hs;have n4:D 4=false:=hsh.no hDi 4 rfl ⟨3,.data⟩ (by simp) rfl rfl;have n5:D 5=false:=hsh.no n4 5 rfl ⟨4,.data⟩ (by simp) rfl rfl;have n7:D 7=false:=hsh.no n5 7 rfl ⟨5,.data⟩ (by simp) rfl rfl;go_simp;refine(hR.pick 0 rfl (by have:=sG (D 3);omega) 120).mono ?_;rintro e2 w2 ⟨x2,rfl,⟨b1,b2,-⟩,s2⟩;have b3:=b2 (by omega)
       refine hK ⟨x2,b1,b3⟩ w2
        (fun j hj=>by
         match j,hj with
         |0,hj | 1,hj | 2,hj=>rfl
         |3,hj=>rw[hDi] at hj;cases hj
         |4,hj=>rw[n4] at hj;cases hj
         |5,hj=>rw[n5] at hj;cases hj
         |6,hj=>rfl
         |7,hj=>rw[n7] at hj;cases hj
         |_+8,hj=>rfl)
        (s2.congr
         (fun i=>by
          match i with
          |0=>(show some (fG w g (hi+3+true.toNat))=some (fG w g (hi+3+(D 3).toNat+1));rw[hDi];rfl)
          |1 | 2 | 3=>rfl
          |4=>(show some (ah _ _ (if D 7=true then _ else _))=some (ah _ _ (if D 7=true then _ else _));rw[n7]<;>rfl)
          |5=>rfl
          |q+6=>exact(if_neg (show¬(q+6=0) by omega)).symm))
      refine Cs (fun D s wz hR _ hd _ _ hs K hK=>?_) ?_
      ·have e63:=hs.v 1 63 hd;have e65:=hs.v 3 65 hd;clear hs;have hs1:=s.2.1;have hs2:=s.2.2;have hw:IntKind.i64.wrap (s.1)=s.1:=by rw[IntKind.wrap_i64];omega
       go_simp;exact hK s wz sv hR
      refine Cs (fun D s wz hR _ hd _ _ hs K hK=>?_) ?_
      ·have YD:=hs.v 4 66 hd;clear hs;have hs1:=s.2.1;have hs2:=s.2.2;have hw:IntKind.i64.wrap (s.1-10)=s.1-10:=by rw[IntKind.wrap_i64];omega
       go_simp;exact hK s wz sv hR
      refine Cs (fun D s wz hR _ hd _ _ hs K hK=>?_) ?_
      ·have e5:=hs.o 5 (.pointer (some ⟨g5,0,none⟩));clear hs;go_simp;exact hK s wz sv hR
      refine Cs (fun D s wz hR (hDi:D 7=false) hd _ _ hs K hK=>?_) ?_
      ·have UC:=hs.v 6 68 hd;have Qd:=hs.v 5 67 hd;clear hs;have kb:fU wz g5 64 #[.int .i64 kv,.int .i64 0]:=hR.blk 4 (by simp only[hDi]<;>rfl);have f0:=kb.frozen;have qk:=kb.cell;go_simp
       exact hK s _ sv ((hR.set 4 (cs:=#[.int .i64 kv,.int .i64 0]) (by simp only[hDi];rfl) 1 _).congr
        (fun i=>by
         match i with
         |0 | 1 | 2 | 3 | 4 | 5=>rfl
         |q+6=>exact(if_neg (show¬(q+6=4) by omega)).symm))
      exact aj.nil
     ·intro D s wz hR hD;simp only[eH,Act.put,aO,aU,aW];obtain⟨x,hx0,hx1⟩:=s;have rC:Hid (St w wz [fG w g (hi+4),X,ah r 28 #[.int .i64 os,.slice G gn gc,.slice G' n' c',.slice D' dn dc,.int .i64 st],ah (r+1) 64 #[.int .i64 0,.int .i64 0],ah g5 64 #[.int .i64 kv,.int .i64 (x-10)]]):=af (hR.eG [0,1,2,3,4] (by decide) (by simp only[List.map,hD 3 (by decide),hD 7 (by decide)]<;>rfl));clear hR hD vS;have qa:=rC.out.cells 4 rfl;have qb:=rC.out.cells 3 rfl;have fb:=rC.out.free 3 rfl;go_wp2;refine bodyPost_ret (v:=.agg #[.int .i64 kv,.int .i64 (x-10)]) (by simp[results,Tryz.results102,go_sem,qb]) rfl ⟨kv,x-10,rfl,hkv,by omega,?_⟩;exact((rC.out.set2 3 rfl (.int .i64 kv) (.int .i64 (x-10))).pick [0,1] (by decide) rfl rfl).more (by omega)
end Go.Proofs.YtkmcengmglgdeaaGreatDoor
