/- Joined texts: DoI, DoI2, Skip. -/
import Derived.Test.YtkmcengmglgdeaaGreatDoorSShortP
import Derived.Test.YtkmcengmglgdeaaGreatDoorSShortS
import Derived.Test.YtkmcengmglgdeaaGreatDoorSCopy
import Derived.Test.YtkmcengmglgdeaaGreatDoorSPush
import Derived.Test.YtkmcengmglgdeaaGreatDoorSReg

namespace Go.Proofs.YtkmcengmglgdeaaGreatDoor
set_option linter.unusedVariables false
set_option linter.unusedSimpArgs false
set_option maxRecDepth 100000
set_option maxHeartbeats 8000000
open Go.ChangeShapes Go.WideShapes Go.ChangeAt Go.RowKit
theorem nX (v:Value) (b:aI) (w:World) (h:RdB w w.heap.size v b):Calls Tryz.prog 49 #[v] w (Gives w id fun v'=>[bF v' b]):=by
 obtain⟨G,gn,gc,G',n',c',D',dn,dc,hv⟩:=h.form;subst hv;obtain⟨hdn,hdl,hst,-⟩:=h.done;obtain⟨os,hos⟩:∃x,b.order.start=x:=⟨_,rfl⟩;obtain⟨st,jw⟩:∃x,b.state=x:=⟨_,rfl⟩;have HO:=af h.order;have HD:=af hdn;have fF:Hid (b.done.length=dn):=af hdn.len;rw[jw] at hst;have HST:=af hst;rw[hos] at HO;rw[hos,jw]
 have S0:St w ((w.alloc (Obj.cells #[.int .i64 os,.slice G gn gc,.slice G' n' c',.slice D' dn dc,.int .i64 st] 28)).alloc (Obj.cells #[.int .i64 0,.slice none 0 0,.slice none 0 0,.slice none 0 0,.int .i64 0] 28)) [ah w.heap.size 28 #[.int .i64 os,.slice G gn gc,.slice G' n' c',.slice D' dn dc,.int .i64 st],ah (w.heap.size+1) 28 #[.int .i64 0,.slice none 0 0,.slice none 0 0,.slice none 0 0,.int .i64 0]]:=by
  have:=((St.refl w).alloc #[.int .i64 os,.slice G gn gc,.slice G' n' c',.slice D' dn dc,.int .i64 st] 28).alloc #[.int .i64 0,.slice none 0 0,.slice none 0 0,.slice none 0 0,.int .i64 0] 28
  simpa using this
 have aQ:=af S0;clear S0 hdn h;go_enter Tryz.func49,Tryz.ntmps49
 go_upto_region 1 with(fail)
 refine kS (σ:=(Option Addr×Nat×Nat×Option Addr×Nat×Nat)×Option Addr×Nat)
  (fun s i=>match i with
   |0=>.pointer (some ⟨w.heap.size,0,none⟩)
   |1=>.agg #[.int .i64 os,.slice G gn gc,.slice G' n' c']
   |2=>.agg #[.int .i64 os,.slice s.1.1 s.1.2.1 s.1.2.2.1,.slice s.1.2.2.2.1 s.1.2.2.2.2.1 s.1.2.2.2.2.2]
   |3=>.pointer (some ⟨w.heap.size,3,none⟩)
   |4=>.slice D' dn dc
   |5=>.slice s.2.1 dn s.2.2
   |6=>.pointer (some ⟨w.heap.size,4,none⟩)
   |7=>.int .i64 st
   |8=>.agg #[.int .i64 os,.slice s.1.1 s.1.2.1 s.1.2.2.1,.slice s.1.2.2.2.1 s.1.2.2.2.2.1 s.1.2.2.2.2.2,.slice s.2.1 dn s.2.2,.int .i64 st]
   |_=>undef)
  (fun D s wx=>Sn w wx fun i=>match i with
   |0=>some (ah w.heap.size 28 #[.int .i64 os,.slice G gn gc,.slice G' n' c',.slice D' dn dc,.int .i64 st])
   |1=>some (ah (w.heap.size+1) 28 (if D 9=true then #[.int .i64 os,.slice s.1.1 s.1.2.1 s.1.2.2.1,.slice s.1.2.2.2.1 s.1.2.2.2.2.1 s.1.2.2.2.2.2,.slice s.2.1 dn s.2.2,.int .i64 st] else #[.int .i64 0,.slice none 0 0,.slice none 0 0,.slice none 0 0,.int .i64 0]))
   |2=>if D 2=true then some (oI (.agg #[.int .i64 os,.slice s.1.1 s.1.2.1 s.1.2.2.1,.slice s.1.2.2.2.1 s.1.2.2.2.2.1 s.1.2.2.2.2.2]) b.order) else none
   |3=>if D 5=true then some (aA (.slice s.2.1 dn s.2.2) b.done) else none
   |_=>none)
  ((none,0,0,none,0,0),none,0) ?_ ?_ ?_
 ·intro D hD;refine((Sn.eY aQ.out).quiet ((ai _ _).drew)).congr fun i=>?_
  match i with
  |0=>rfl
  |1=>simp only[hD 9 (by decide)];rfl
  |2=>simp only[hD 2 (by decide)];rfl
  |3=>simp only[hD 5 (by decide)];rfl
  |q+4=>rfl
 ·refine Cs (fun D s wx hR _ hd _ _ hs K hK=>?_) ?_
  ·have e1:=hs.o 1 (.pointer (some ⟨w.heap.size,0,none⟩));clear hs;go_simp;exact hK s wx sv hR
  refine Cs (fun D s wx hR _ hd _ _ hs K hK=>?_) ?_
  ·have e3:=hs.v 0 3 hd;clear hs;have qk:=(hR.blk 0 rfl).cell;go_simp;exact hK s wx sv hR
  refine Cs (fun D s wx hR (hDi:D 2=false) hd hsh _ hs K hK=>?_) ?_
  ·have e4:=hs.v 1 4 hd;have g4:=aZ e4;clear hs;have n8:D 8=false:=hsh.no hDi 8 rfl ⟨2,.data⟩ (by simp) rfl rfl;have n9:D 9=false:=hsh.no n8 9 rfl ⟨8,.data⟩ (by simp) rfl rfl;go_simp;refine(H9 _ b.order _ (HO.out.up hR.below)).mono ?_;rintro e w2 ⟨v2,rfl,s2⟩;obtain⟨C1,n1,c1,C2,n2,c2,hv⟩:=s2.XP 0 rfl;rw[hos] at hv;subst hv
   refine hK ((C1,n1,c1,C2,n2,c2),s.2) w2
    (fun j hj=>by
     match j,hj with
     |0,hj | 1,hj=>rfl
     |2,hj=>rw[hDi] at hj;cases hj
     |3,hj | 4,hj | 5,hj | 6,hj | 7,hj=>rfl
     |8,hj=>rw[n8] at hj;cases hj
     |9,hj=>rfl
     |_+10,hj=>rfl)
    ((hR.add 2 (if_neg (by rw[hDi];simp)) s2).congr
     (fun i=>by
      match i with
      |0=>rfl
      |1=>(show some (ah _ _ (if D 9=true then _ else _))=some (ah _ _ (if D 9=true then _ else _));rw[n9]<;>rfl)
      |2 | 3=>rfl
      |q+4=>exact(if_neg (show¬(q+4=2) by omega)).symm))
  refine Cs (fun D s wx hR _ hd _ _ hs K hK=>?_) ?_
  ·have e1:=hs.o 1 (.pointer (some ⟨w.heap.size,0,none⟩));clear hs;go_simp;exact hK s wx sv hR
  refine Cs (fun D s wx hR _ hd _ _ hs K hK=>?_) ?_
  ·have e6:=hs.v 3 6 hd;clear hs;have qk:=(hR.blk 0 rfl).cell;go_simp;exact hK s wx sv hR
  refine Cs (fun D s wx hR (hDi:D 5=false) hd hsh _ hs K hK=>?_) ?_
  ·have e7:=hs.v 4 7 hd;have g7:=aZ e7;clear hs;have n8:D 8=false:=hsh.no hDi 8 rfl ⟨5,.data⟩ (by simp) rfl rfl;have n9:D 9=false:=hsh.no n8 9 rfl ⟨8,.data⟩ (by simp) rfl rfl;go_simp;refine(clone_any D' dn dc b.done _ (HD.out.up hR.below) (by omega)).mono ?_;rintro e w2 ⟨v2,rfl,s2⟩;obtain⟨C1,c1,hv,-⟩:=s2.xq 0 rfl;rw[fF.out] at hv;subst hv
   refine hK (s.1,C1,c1) w2
    (fun j hj=>by
     match j,hj with
     |0,hj | 1,hj | 2,hj | 3,hj | 4,hj=>rfl
     |5,hj=>rw[hDi] at hj;cases hj
     |6,hj | 7,hj=>rfl
     |8,hj=>rw[n8] at hj;cases hj
     |9,hj=>rfl
     |_+10,hj=>rfl)
    ((hR.add 3 (if_neg (by rw[hDi];simp)) s2).congr
     (fun i=>by
      match i with
      |0=>rfl
      |1=>(show some (ah _ _ (if D 9=true then _ else _))=some (ah _ _ (if D 9=true then _ else _));rw[n9]<;>rfl)
      |2 | 3=>rfl
      |q+4=>exact(if_neg (show¬(q+4=3) by omega)).symm))
  refine Cs (fun D s wx hR _ hd _ _ hs K hK=>?_) ?_
  ·have e1:=hs.o 1 (.pointer (some ⟨w.heap.size,0,none⟩));clear hs;go_simp;exact hK s wx sv hR
  refine Cs (fun D s wx hR _ hd _ _ hs K hK=>?_) ?_
  ·have e9:=hs.v 6 9 hd;clear hs;have qk:=(hR.blk 0 rfl).cell;go_simp;exact hK s wx sv hR
  refine Cs (fun D s wx hR _ hd _ _ hs K hK=>?_) ?_
  ·have e5:=hs.v 2 5 hd;have e8:=hs.v 5 8 hd;have e10:=hs.v 7 10 hd;have g5:=aZ e5;have g8:=aZ e8;have g10:=aZ e10;clear hs;go_simp;exact hK s wx sv hR
  refine Cs (fun D s wx hR (hDi:D 9=false) hd _ _ hs K hK=>?_) ?_
  ·have e2:=hs.o 2 (.pointer (some ⟨(w.heap.size+1),0,none⟩));have e11:=hs.v 8 11 hd;clear hs;have kb:iJ wx (w.heap.size+1) 28 #[.int .i64 0,.slice none 0 0,.slice none 0 0,.slice none 0 0,.int .i64 0]:=hR.blk 1 (by simp only[hDi]<;>rfl);have f0:=kb.frozen;have qk:=kb.cell;go_simp
   exact hK s _ sv ((hR.fH 1 (by simp only[hDi];rfl) _ _ _ _ _).congr
    (fun i=>by
     match i with
     |0 | 1 | 2 | 3=>rfl
     |q+4=>exact(if_neg (show¬(q+4=1) by omega)).symm))
  exact au.nil
 ·intro D s wx hR hD;simp only[eG,Act.put,aO,aS,aV];have dV:Hid (St w wx [oI (.agg #[.int .i64 os,.slice s.1.1 s.1.2.1 s.1.2.2.1,.slice s.1.2.2.2.1 s.1.2.2.2.2.1 s.1.2.2.2.2.2]) b.order,aA (.slice s.2.1 dn s.2.2) b.done,ah (w.heap.size+1) 28 #[.int .i64 os,.slice s.1.1 s.1.2.1 s.1.2.2.1,.slice s.1.2.2.2.1 s.1.2.2.2.2.1 s.1.2.2.2.2.2,.slice s.2.1 dn s.2.2,.int .i64 st]]):=af (hR.fO [2,3,1] (by decide) (by simp only[List.map,hD 2 (by decide),hD 5 (by decide),hD 9 (by decide)]<;>rfl));clear hR hD;have q1:=dV.out.cells 2 rfl;go_wp2;refine bodyPost_ret (v:=.agg #[.int .i64 os,.slice s.1.1 s.1.2.1 s.1.2.2.1,.slice s.1.2.2.2.1 s.1.2.2.2.2.1 s.1.2.2.2.2.2,.slice s.2.1 dn s.2.2,.int .i64 st]) (by simp[results,Tryz.results49,go_sem,q1]) rfl ⟨_,rfl,?_⟩
  have:=dV.out.pick [0,1] (by decide) rfl rfl
  obtain⟨⟨bs,bg,bd⟩,aem,bst⟩:=b
  simp only at hos jw
  subst hos jw;exact this.book (by rw[fF.out];omega) HST.out
def fZ (o:Option (List Int)) (w:World) (e:Ending) (w':World):Prop:=∃v ds,e= .returned (.tuple #[v,.bool o.isSome])∧(∀d,o=some d→ds=d)∧St w w' [aA v ds]
theorem fZ.no {o:Option (List Int)} {w w':World} (ho:o=none) (h:Below w.heap.size w w'):fZ o w (.returned (.tuple #[.slice none 0 0,.bool false])) w':=
 ⟨_,[],by rw[ho];rfl,(fun d hd=>by rw[ho] at hd;cases hd),iE _ _ h⟩
theorem fZ.no' {o:Option (List Int)} {w w':World} {v:Value} {ds:List Int} (ho:o=none) (h:St w w' [aA v ds]):fZ o w (.returned (.tuple #[v,.bool false])) w':=
 ⟨_,ds,by rw[ho];rfl,(fun d hd=>by rw[ho] at hd;cases hd),h⟩
theorem fZ.yes {o:Option (List Int)} {w w':World} {v:Value} {ds:List Int} (ho:o=some ds) (h:St w w' [aA v ds]):fZ o w (.returned (.tuple #[v,.bool true])) w':=
 ⟨_,ds,by rw[ho];rfl,(fun d hd=>by rw[ho] at hd;injection hd),h⟩
theorem Qe {x:Int} (h0:0≤x) (h1:x≤1000000):(Lit.int .i64 x).wf=true:=dU (by omega)
theorem FI {b:aI} {m:Int}:aY b ⟨0,m⟩=if b.done.length<40∧m∈dG b.order b.state then some (b.done++[m]) else none:=by unfold aY;rw[if_pos rfl]
theorem JV {b:aI} {m:Int}:aY b ⟨1,m⟩=if 1≤m∧m≤b.done.length then some (b.done.take (b.done.length-m.toNat)) else none:=by unfold aY;rw[if_neg (by simp),if_pos rfl]
theorem done2 {b:aI} {m:Int}:aY b ⟨2,m⟩=if m=0∧((eU b.order b.done).getD []).length<b.done.length then some ((eU b.order b.done).getD []) else none:=by unfold aY;rw[if_neg (by simp),if_neg (by simp),if_pos rfl]
theorem JW {b:aI} {m:Int}:aY b ⟨3,m⟩=if m=0∧0<((dF b).getD []).length∧b.done.length+((dF b).getD []).length≤40 then some (b.done++(dF b).getD []) else none:=by unfold aY;rw[if_neg (by simp),if_neg (by simp),if_neg (by simp),if_pos rfl]
theorem XQ {b:aI} {k m:Int} (h0:k≠0) (h1:k≠1) (h2:k≠2) (h3:k≠3):aY b ⟨k,m⟩=none:=by unfold aY;rw[if_neg h0,if_neg h1,if_neg h2,if_neg h3]
theorem Ew (v:Value) (b:aI) (k m:Int) (w:World) (h:RdB w w.heap.size v b) (hok:aP b=true) (hmw:(Lit.int .i64 m).wf=true):
  Calls Tryz.prog 110 #[v,.agg #[.int .i64 k,.int .i64 m]] w (fZ (aY b ⟨k,m⟩) w):=by
 obtain⟨G,gn,gc,G',n',c',D',dn,dc,hv⟩:=h.form;subst hv;obtain⟨hdn,hdl,hst,-⟩:=h.done;have aaZ:=hdn.cap;have Y8:=hdn.bZ
 unfold maxLen at Y8
 obtain⟨os,hos⟩:∃x,b.order.start=x:=⟨_,rfl⟩;obtain⟨st,jw⟩:∃x,b.state=x:=⟨_,rfl⟩;have lq:=af h;have HO:=af h.order;have HD:=af hdn;have fF:Hid (b.done.length=dn):=af hdn.len;have pR:=Bx.mk hos;have jX:=Bx.mk jw;have aa0:=Bx.mk hok;have XK:=af hmw;rw[jw] at hst;have HST:=af hst;have yS:dn≤40:=by rw[←fF.out];exact(bH hok).2.1
 rw[hos] at HO;rw[hos,jw] at lq;rw[hos,jw]
 have S0:St w ((w.alloc (Obj.cells #[.int .i64 os,.slice G gn gc,.slice G' n' c',.slice D' dn dc,.int .i64 st] 28)).alloc (Obj.cells #[.int .i64 k,.int .i64 m] 64)) [ah w.heap.size 28 #[.int .i64 os,.slice G gn gc,.slice G' n' c',.slice D' dn dc,.int .i64 st],ah (w.heap.size+1) 64 #[.int .i64 k,.int .i64 m]]:=by
  have:=((St.refl w).alloc #[.int .i64 os,.slice G gn gc,.slice G' n' c',.slice D' dn dc,.int .i64 st] 28).alloc #[.int .i64 k,.int .i64 m] 64
  simpa using this
 have aQ:=af S0;clear S0 hdn h hok hos jw hst hmw
 by_cases h0:k=0
 ·subst h0
  by_cases hge:40≤dn
  ·have HN:Bx (aY b ⟨0,m⟩=none):=Bx.mk (by rw[FI,if_neg (by rw[fF.out];omega)]);have Y9:(40:Int)≤(dn:Int):=by omega
   go_enter Tryz.func110,Tryz.ntmps110
   go_upto_region 4 with(fail)
   refine kS (σ:=Unit)
    (fun s i=>match i with
     |0=>.int .i64 (dn:Int)
     |1=>.bool true
     |2=>.bool true
     |12=>.bool true
     |_=>undef)
    (fun D s wx=>Sn w wx fun i=>match i with
     |0=>some (ah w.heap.size 28 #[.int .i64 os,.slice G gn gc,.slice G' n' c',.slice D' dn dc,.int .i64 st])
     |1=>some (ah (w.heap.size+1) 64 #[.int .i64 0,.int .i64 m])
     |_=>none)
    () ?_ ?_ ?_
   ·intro D hD;refine((Sn.eY aQ.out).quiet ((ai _ _).drew)).congr fun i=>?_
    match i with
    |0 | 1=>rfl
    |q+2=>rfl
   ·refine Cs (fun D s wx hR _ hd _ _ hs K hK=>?_) ?_
    ·have e6:=hs.o 6 (.int .i64 (dn:Int));clear hs;go_simp;exact hK s wx sv hR
    refine Cs (fun D s wx hR _ hd _ _ hs K hK=>?_) ?_
    ·have e18:=hs.v 0 18 hd;clear hs;go_simp;exact hK s wx sv hR
    refine Cs (fun D s wx hR _ hd _ _ hs K hK=>?_) ?_
    ·have e19:=hs.v 1 19 hd;clear hs;go_simp;exact hK s wx sv hR
    refine dw (fun D s wx hR _ hd _ _ hs K hK=>?_) ?_
    ·refine hs.iP 2 20 false hd ?_;exact hK s wx sv hR
    refine dw (fun D s wx hR _ hd _ _ hs K hK=>?_) ?_
    ·refine hs.iP 2 20 false hd ?_;exact hK s wx sv hR
    refine dw (fun D s wx hR _ hd _ _ hs K hK=>?_) ?_
    ·refine hs.iP 2 20 false hd ?_;exact hK s wx sv hR
    refine dw (fun D s wx hR _ hd _ _ hs K hK=>?_) ?_
    ·refine hs.iP 2 20 false hd ?_;exact hK s wx sv hR
    refine dw (fun D s wx hR _ hd _ _ hs K hK=>?_) ?_
    ·refine hs.iP 2 20 false hd ?_;exact hK s wx sv hR
    refine dw (fun D s wx hR _ hd _ _ hs K hK=>?_) ?_
    ·refine hs.iP 2 20 false hd ?_;exact hK s wx sv hR
    refine dw (fun D s wx hR _ hd _ _ hs K hK=>?_) ?_
    ·refine hs.iP 2 20 false hd ?_;exact hK s wx sv hR
    refine dw (fun D s wx hR _ hd _ _ hs K hK=>?_) ?_
    ·refine hs.iP 2 20 false hd ?_;exact hK s wx sv hR
    refine dw (fun D s wx hR _ hd _ _ hs K hK=>?_) ?_
    ·refine hs.iP 2 20 false hd ?_;exact hK s wx sv hR
    refine Cs (fun D s wx hR _ hd _ _ hs K hK=>?_) ?_
    ·have e20:=hs.v 2 20 hd;have e29:=hs.v 11 29 hd;clear hs;go_simp;exact hK s wx sv hR
    exact au.nil
   ·intro D s wx hR hD;simp only[eG,Act.put,aO,aS,aV];have HB:=af (hR.fO [0,1] (L:=[ah w.heap.size 28 #[.int .i64 os,.slice G gn gc,.slice G' n' c',.slice D' dn dc,.int .i64 st],ah (w.heap.size+1) 64 #[.int .i64 0,.int .i64 m]]) (by decide) rfl).below;clear hR hD;go_wp2;exact bodyPost_ret (v:=.tuple #[.slice none 0 0,.bool false]) (by simp[results,Tryz.results110,go_sem]) rfl (fZ.no HN.out HB.out)
  ·have Y9:¬(40:Int)≤(dn:Int):=by omega
   have aen:(dn:Int)<40:=by omega
   obtain⟨may,hmay⟩:∃x,dG b.order st=x:=⟨_,rfl⟩;have Ia:=Bx.mk hmay;obtain⟨bm,hbm⟩:∃x,decide (m∈may)=x:=⟨_,rfl⟩;have Wn:=Bx.mk hbm;clear hmay hbm;go_enter Tryz.func110,Tryz.ntmps110
   go_upto_region 4 with(fail)
   refine kS (σ:=Option Addr×Nat)
    (fun s i=>match i with
     |0=>.int .i64 (dn:Int)
     |1=>.bool false
     |2=>.bool false
     |3=>.pointer (some ⟨w.heap.size,0,none⟩)
     |4=>.agg #[.int .i64 os,.slice G gn gc,.slice G' n' c']
     |5=>.pointer (some ⟨w.heap.size,4,none⟩)
     |6=>.int .i64 st
     |7=>.slice s.1 may.length s.2
     |8=>.pointer (some ⟨(w.heap.size+1),1,none⟩)
     |9=>.int .i64 m
     |10=>.bool bm
     |11=>.bool (!bm)
     |12=>.bool (!bm)
     |_=>undef)
    (fun D s wx=>Sn w wx fun i=>match i with
     |0=>some (ah w.heap.size 28 #[.int .i64 os,.slice G gn gc,.slice G' n' c',.slice D' dn dc,.int .i64 st])
     |1=>some (ah (w.heap.size+1) 64 #[.int .i64 0,.int .i64 m])
     |2=>if D 7=true then some (aA (.slice s.1 may.length s.2) may) else none
     |_=>none)
    (none,0) ?_ ?_ ?_
   ·intro D hD;refine((Sn.eY aQ.out).quiet ((ai _ _).drew)).congr fun i=>?_
    match i with
    |0 | 1=>rfl
    |2=>simp only[hD 7 (by decide)];rfl
    |q+3=>rfl
   ·refine Cs (fun D s wx hR _ hd _ _ hs K hK=>?_) ?_
    ·have e6:=hs.o 6 (.int .i64 (dn:Int));clear hs;go_simp;exact hK s wx sv hR
    refine Cs (fun D s wx hR _ hd _ _ hs K hK=>?_) ?_
    ·have e18:=hs.v 0 18 hd;clear hs;go_simp;exact hK s wx sv hR
    refine Cs (fun D s wx hR _ hd _ _ hs K hK=>?_) ?_
    ·have e19:=hs.v 1 19 hd;clear hs;go_simp;exact hK s wx sv hR
    refine dw (fun D s wx hR _ hd _ _ hs K hK=>?_) ?_
    ·refine hs.yes 2 20 false hd ?_;have e2:=hs.o 2 (.pointer (some ⟨w.heap.size,0,none⟩));clear hs;go_simp;exact hK s wx sv hR
    refine dw (fun D s wx hR _ hd _ _ hs K hK=>?_) ?_
    ·refine hs.yes 2 20 false hd ?_;have e21:=hs.v 3 21 hd;clear hs;have qk:=(hR.blk 0 rfl).cell;go_simp;exact hK s wx sv hR
    refine dw (fun D s wx hR _ hd _ _ hs K hK=>?_) ?_
    ·refine hs.yes 2 20 false hd ?_;have e2:=hs.o 2 (.pointer (some ⟨w.heap.size,0,none⟩));clear hs;go_simp;exact hK s wx sv hR
    refine dw (fun D s wx hR _ hd _ _ hs K hK=>?_) ?_
    ·refine hs.yes 2 20 false hd ?_;have e23:=hs.v 5 23 hd;clear hs;have qk:=(hR.blk 0 rfl).cell;go_simp;exact hK s wx sv hR
    refine dw (fun D s wx hR (hDi:D 7=false) hd hsh _ hs K hK=>?_) ?_
    ·refine hs.yes 2 20 false hd ?_;have e22:=hs.v 4 22 hd;have e24:=hs.v 6 24 hd;have g22:=aZ e22;have g24:=aZ e24;clear hs;have n10:D 10=false:=hsh.no hDi 10 rfl ⟨7,.data⟩ (by simp) rfl rfl;have n11:D 11=false:=hsh.no n10 11 rfl ⟨10,.data⟩ (by simp) rfl rfl;have n12:D 12=false:=hsh.no n11 12 rfl ⟨11,.data⟩ (by simp) rfl rfl;go_simp;refine(vV _ b.order st _ (HO.out.up hR.below)).mono ?_;rw[Ia.out];rintro e2 w2 ⟨v2,rfl,s2⟩;obtain⟨A2,c2,hv,-⟩:=s2.xq 0 rfl;subst hv
     refine hK (A2,c2) w2
      (fun j hj=>by
       match j,hj with
       |0,hj | 1,hj | 2,hj | 3,hj | 4,hj | 5,hj | 6,hj=>rfl
       |7,hj=>rw[hDi] at hj;cases hj
       |8,hj | 9,hj=>rfl
       |10,hj=>rw[n10] at hj;cases hj
       |11,hj=>rw[n11] at hj;cases hj
       |12,hj=>rw[n12] at hj;cases hj
       |_+13,hj=>rfl)
      ((hR.add 2 (if_neg (by rw[hDi];simp)) s2).congr
       (fun i=>by
        match i with
        |0 | 1 | 2=>rfl
        |q+3=>exact(if_neg (show¬(q+3=2) by omega)).symm))
    refine dw (fun D s wx hR _ hd _ _ hs K hK=>?_) ?_
    ·refine hs.yes 2 20 false hd ?_;have e3:=hs.o 3 (.pointer (some ⟨(w.heap.size+1),0,none⟩));clear hs;go_simp;exact hK s wx sv hR
    refine dw (fun D s wx hR _ hd _ _ hs K hK=>?_) ?_
    ·refine hs.yes 2 20 false hd ?_;have e26:=hs.v 8 26 hd;clear hs;have qk:=(hR.blk 1 rfl).cell;go_simp;exact hK s wx sv hR
    refine dw (fun D s wx hR _ hd _ _ hs K hK=>?_) ?_
    ·refine hs.yes 2 20 false hd ?_;have e25:=hs.v 7 25 hd;have e27:=hs.v 9 27 hd;have g25:=aZ e25;have g27:=aZ e27;clear hs;have d7:D 7=true:=hd ⟨7,.data⟩ (by simp) rfl;go_simp;refine(Ib s.1 may.length s.2 may m _ (hR.nY 2 (if_pos d7))).mono ?_;rw[Wn.out];rintro e2 w2 ⟨rfl,rfl⟩;exact hK s wx sv hR
    refine dw (fun D s wx hR _ hd _ _ hs K hK=>?_) ?_
    ·refine hs.yes 2 20 false hd ?_;have e28:=hs.v 10 28 hd;clear hs;go_simp;exact hK s wx sv hR
    refine Cs (fun D s wx hR _ hd _ _ hs K hK=>?_) ?_
    ·have e20:=hs.v 2 20 hd;have e29:=hs.v 11 29 hd;clear hs;go_simp;exact hK s wx sv hR
    exact au.nil
   ·intro D s wx hR hD;simp only[eG,Act.put,aO,aS,aV];have bG:=af (hR.fO [0,1] (L:=[ah w.heap.size 28 #[.int .i64 os,.slice G gn gc,.slice G' n' c',.slice D' dn dc,.int .i64 st],ah (w.heap.size+1) 64 #[.int .i64 0,.int .i64 m]]) (by decide) rfl);clear hR hD aQ;have q0:=bG.out.cells 0 rfl;have q1:=bG.out.cells 1 rfl
    cases bm with
    |false=>
     have HN:Bx (aY b ⟨0,m⟩=none):=Bx.mk (by rw[FI,if_neg (by rw[jX.out,Ia.out];exact fun h=>of_decide_eq_false Wn.out h.2)]);go_wp2;exact bodyPost_ret (v:=.tuple #[.slice none 0 0,.bool false]) (by simp[results,Tryz.results110,go_sem]) rfl (fZ.no HN.out bG.out.below)
    |true=>
     have HY:Bx (aY b ⟨0,m⟩=some (b.done++[m])):=Bx.mk (by rw[FI,if_pos (by rw[jX.out,Ia.out,fF.out];exact⟨by omega,of_decide_eq_true Wn.out⟩)]);have S2:=(bG.out.call (St.lit wx [m] 1 rfl (by simp) (fun x hx=>by rw[List.mem_singleton.1 hx];exact XK.out))).alloc #[.slice D' dn dc,.slice (some ⟨wx.heap.size,0,none⟩) 1 1] 23;have hsz:(wx.alloc (.cells #[.int .i64 m] 3)).heap.size=wx.heap.size+1:=by simp
     have S2':=S2
     have XR:Hid (iJ ((wx.alloc (.cells #[.int .i64 m] 3)).alloc (.cells #[.slice D' dn dc,.slice (some ⟨wx.heap.size,0,none⟩) 1 1] 23)) (wx.heap.size+1) 23 #[.slice D' dn dc,.slice (some ⟨wx.heap.size,0,none⟩) 1 1]):=af (by
      have:=S2.blk 3 (g:=(wx.alloc (.cells #[.int .i64 m] 3)).heap.size) rfl
      rw[hsz] at this
      exact this)
     have HR1:=af (S2.nY 2 rfl);have HD2:=af (HD.out.up S2.below);have HS2:=af (S2.pick [0,1] (by decide) rfl rfl);clear S2 S2'
     go_wp2_with fail
     refine(Cj (wx.heap.size+1) D' dn dc b.done (some ⟨wx.heap.size,0,none⟩) 1 1 [m] _ XR.out HD2.out HR1.out (by omega)).mono ?_;rintro e w3 ⟨v3,rfl,s3⟩;have dV:=af ((HS2.out.call s3).pick [2] (by decide) rfl rfl);clear s3 HS2 XR HR1 HD2 q0 q1;go_wp2;exact bodyPost_ret (v:=.tuple #[v3,.bool true]) (by simp[results,Tryz.results110,go_sem]) rfl (fZ.yes HY.out dV.out)
 by_cases h1:k=1
 ·subst h1;clear h0
  by_cases hm1:1≤m
  case neg=>
   have HN:Bx (aY b ⟨1,m⟩=none):=Bx.mk (by rw[JV,if_neg (by omega)]);have adl:m<1:=by omega
   go_enter Tryz.func110,Tryz.ntmps110;go_wp2;exact bodyPost_ret (v:=.tuple #[.slice none 0 0,.bool false]) (by simp[results,Tryz.results110,go_sem]) rfl (fZ.no HN.out aQ.out.below)
  have adl:¬m<1:=by omega
  by_cases hm2:m≤dn
  case neg=>
   have HN:Bx (aY b ⟨1,m⟩=none):=Bx.mk (by rw[JV,if_neg (by rw[fF.out];omega)]);have adn:(dn:Int)<m:=by omega
   go_enter Tryz.func110,Tryz.ntmps110;go_wp2;exact bodyPost_ret (v:=.tuple #[.slice none 0 0,.bool false]) (by simp[results,Tryz.results110,go_sem]) rfl (fZ.no HN.out aQ.out.below)
  have adn:¬(dn:Int)<m:=by omega
  obtain⟨mm,rfl⟩:=bI (show 0≤m by omega);have HY:Bx (aY b ⟨1,(mm:Int)⟩=some (b.done.take (dn-mm))):=Bx.mk (by rw[JV,if_pos (by rw[fF.out];omega),fF.out,dD]);obtain⟨bb,off,x,rfl,-⟩:=HD.out.get (show 0<dn by omega);have hk1:dn-mm≤dn:=by omega
  have hk2:dn-mm≤dc:=by omega
  obtain⟨r,hr⟩:∃r,dn-mm=r:=⟨_,rfl⟩;have Qz:(dn:Int)-(mm:Int)=(r:Int):=by omega
  rw[hr] at HY hk1 hk2;have hrc:(r:Int)≤(dc:Int):=by omega
  go_enter Tryz.func110,Tryz.ntmps110
  go_wp2_with fail
  refine(clone_any (some ⟨bb,off,none⟩) r dc (b.done.take r) _ ((oV (HD.out.up aQ.out.below) r (by omega))) (by omega)).mono ?_;rintro e w3 ⟨v3,rfl,s3⟩;have dV:=af ((aQ.out.call s3).pick [2] (by decide) rfl rfl);clear s3;go_wp2;exact bodyPost_ret (v:=.tuple #[v3,.bool true]) (by simp[results,Tryz.results110,go_sem]) rfl (fZ.yes HY.out dV.out)
 by_cases h2:k=2
 ·subst h2;clear h0 h1;obtain⟨sh,hsh⟩:∃x,(eU b.order b.done).getD []=x:=⟨_,rfl⟩;have QA:=Bx.mk hsh;have HSM:Bx ((eU b.order b.done).isSome=true):=Bx.mk (by rw[mr aa0.out];rfl);obtain⟨sl,hsl⟩:∃x,sh.length=x:=⟨_,rfl⟩;have JX:=Bx.mk hsl
  have aa1:sl≤40:=by
   rw[←hsl,←hsh,mr aa0.out];exact Nat.le_trans (Cm ..) (by rw[fF.out];exact yS)
  clear hsh hsl;go_enter Tryz.func110,Tryz.ntmps110
  go_wp2_with fail
  refine(CG _ b.order D' dn dc b.done _ (HO.out.up aQ.out.below) (HD.out.up aQ.out.below)).mono ?_;rw[QA.out,HSM.out];rintro e w3 ⟨v3,rfl,s3⟩;obtain⟨A3,c3,hv3,-⟩:=s3.xq 0 rfl;rw[JX.out] at hv3;subst hv3;have dV:=af (aQ.out.call s3);have q1:=dV.out.cells 1 rfl;clear s3
  by_cases hm0:m=0
  ·subst hm0
   by_cases hlt:sl<dn
   ·have HY:Bx (aY b ⟨2,0⟩=some sh):=Bx.mk (by rw[done2,QA.out,if_pos (by rw[JX.out,fF.out];exact⟨rfl,hlt⟩)]);have Za:(sl:Int)<(dn:Int):=by omega
    go_wp2;exact bodyPost_ret (v:=.tuple #[.slice A3 sl c3,.bool true]) (by simp[results,Tryz.results110,go_sem]) rfl (fZ.yes HY.out (dV.out.pick [2] (by decide) rfl rfl))
   ·have HN:Bx (aY b ⟨2,0⟩=none):=Bx.mk (by rw[done2,QA.out,if_neg (by rw[JX.out,fF.out];omega)]);have Za:¬(sl:Int)<(dn:Int):=by omega
    go_wp2;exact bodyPost_ret (v:=.tuple #[.slice A3 sl c3,.bool false]) (by simp[results,Tryz.results110,go_sem]) rfl (fZ.no' HN.out (dV.out.pick [2] (by decide) rfl rfl))
  ·have HN:Bx (aY b ⟨2,m⟩=none):=Bx.mk (by rw[done2,if_neg (by omega)]);have ado:(m == 0)=false:=by simpa using hm0
   clear hm0;go_wp2;exact bodyPost_ret (v:=.tuple #[.slice A3 sl c3,.bool false]) (by simp[results,Tryz.results110,go_sem]) rfl (fZ.no' HN.out (dV.out.pick [2] (by decide) rfl rfl))
 by_cases h3:k=3
 ·subst h3;clear h0 h1 h2;obtain⟨rr,hrr⟩:∃x,dF b=x:=⟨_,rfl⟩;have HRR:=Bx.mk hrr;go_enter Tryz.func110,Tryz.ntmps110
  go_wp2_with fail
  refine(rE _ b _ (lq.out.up aQ.out.below)).mono ?_;rw[HRR.out];rintro e w3 ⟨v3,rfl,s3⟩;have dV:=af (aQ.out.call s3);have q0:=dV.out.cells 0 rfl;have q1:=dV.out.cells 1 rfl
  cases rr with
  |none=>
   have HN:Bx (aY b ⟨3,m⟩=none):=Bx.mk (by rw[JW,hrr,if_neg (by simp)]);clear hrr s3;simp only[Option.isSome_none,Option.getD_none] at*;go_wp2;exact bodyPost_ret (v:=.tuple #[.slice none 0 0,.bool false]) (by simp[results,Tryz.results110,go_sem]) rfl (fZ.no HN.out dV.out.below)
  |some rest=>
   obtain⟨rl,hrl⟩:∃x,rest.length=x:=⟨_,rfl⟩;have HRL:=Bx.mk hrl;have aa2:rl≤31:=by rw[←hrl];exact(ug hrr).2.1
   simp only[Option.isSome_some,Option.getD_some] at*;obtain⟨A3,c3,hv3,-⟩:=s3.xq 0 rfl;rw[hrl] at hv3;subst hv3;have Zb:¬(m=0∧0<rl∧dn+rl≤40)→aY b ⟨3,m⟩=none:=fun h=>by rw[JW,hrr,Option.getD_some,hrl,fF.out,if_neg h]
   have HYf:(m=0∧0<rl∧dn+rl≤40)→aY b ⟨3,m⟩=some (b.done++rest):=fun h=>by rw[JW,hrr,Option.getD_some,hrl,fF.out,if_pos h]
   clear hrr s3 hrl
   by_cases hm0:m=0
   case neg=>
    have HN:=Bx.mk (Zb (fun h=>hm0 h.1));have ado:(m == 0)=false:=by simpa using hm0
    have aeo:(m != 0)=true:=by simpa using hm0
    clear hm0 HYf Zb;go_wp2;exact bodyPost_ret (v:=.tuple #[.slice none 0 0,.bool false]) (by simp[results,Tryz.results110,go_sem]) rfl (fZ.no HN.out dV.out.below)
   subst hm0
   by_cases hr0:rl=0
   case pos=>
    have HN:=Bx.mk (Zb (fun h=>by omega));subst hr0;clear HYf Zb;go_wp2;exact bodyPost_ret (v:=.tuple #[.slice none 0 0,.bool false]) (by simp[results,Tryz.results110,go_sem]) rfl (fZ.no HN.out dV.out.below)
   have afe:((rl:Int) == 0)=false:=by simp;exact hr0
   have adp:(0:Int)<(rl:Int):=by omega
   by_cases tu:dn+rl≤40
   case neg=>
    have HN:=Bx.mk (Zb (fun h=>by omega));have XT:(40:Int)<(dn:Int)+(rl:Int):=by omega
    clear HYf Zb;go_wp2;exact bodyPost_ret (v:=.tuple #[.slice none 0 0,.bool false]) (by simp[results,Tryz.results110,go_sem]) rfl (fZ.no HN.out dV.out.below)
   have HY:=Bx.mk (HYf ⟨rfl,by omega,tu⟩);have XT:¬(40:Int)<(dn:Int)+(rl:Int):=by omega
   clear Zb HYf hr0;have S4:=dV.out.alloc #[.slice D' dn dc,.slice A3 rl c3] 23;have XR:=af (S4.blk 3 (g:=w3.heap.size) rfl);have HR1:=af (S4.nY 2 rfl);have HD2:=af (HD.out.up S4.below);have iM:=af (S4.pick [0,1] (by decide) rfl rfl);clear S4
   go_wp2_with fail
   refine(Cj w3.heap.size D' dn dc b.done A3 rl c3 rest _ XR.out HD2.out HR1.out (by omega)).mono ?_;rintro e w5 ⟨v5,rfl,s5⟩;have fV:=af ((iM.out.call s5).pick [2] (by decide) rfl rfl);clear s5 q0 q1;go_wp2;exact bodyPost_ret (v:=.tuple #[v5,.bool true]) (by simp[results,Tryz.results110,go_sem]) rfl (fZ.yes HY.out fV.out)
 have HN:=Bx.mk (XQ (b:=b) (m:=m) h0 h1 h2 h3);have h0':(k == 0)=false:=by simpa using h0
 have h1':(k == 1)=false:=by simpa using h1
 have h2':(k == 2)=false:=by simpa using h2
 have h3':(k == 3)=false:=by simpa using h3
 clear h0 h1 h2 h3;go_enter Tryz.func110,Tryz.ntmps110;go_wp2;exact bodyPost_ret (v:=.tuple #[.slice none 0 0,.bool false]) (by simp[results,Tryz.results110,go_sem]) rfl (fZ.no HN.out aQ.out.below)
section
variable {w W W' : World} {L : List dW}
theorem St.Tz {s st:Int} {gv dv ev:Value} {b:aI} (h:St w W (bF (.agg #[.int .i64 s,gv,dv,ev,.int .i64 st]) b::L)):St w W (oI (.agg #[.int .i64 s,gv,dv]) b.order::aA ev b.done::L):=
 h.split fun F ⟨gv',dv',ev',Ft,Fd,e,h1,h2,h3,h4,h5,h6⟩=>by
  simp only[Value.agg.injEq,Array.mk.injEq,List.cons.injEq,and_true,Value.int.injEq,true_and] at e;obtain⟨rfl,rfl,rfl,rfl,-⟩:=e;refine⟨Ft,Fd,h5,⟨h1,?_⟩,h2⟩;rw[h5] at h6;exact(List.nodup_append.1 h6).1
theorem St.book' {o:aB} {s st:Int} {gv dv ev:Value} {done:List Int} (hs:o.start=s) (h:St w W (oI (.agg #[.int .i64 s,gv,dv]) o::aA ev done::L)) (hd:done.length≤1048576) (hst:(Lit.int .i64 st).wf=true):
  St w W (bF (.agg #[.int .i64 s,gv,dv,ev,.int .i64 st]) ⟨o,done,st⟩::L):=by
 obtain⟨os,og,od⟩:=o
 simp only at hs
 subst hs;exact h.book hd hst
end
theorem zO (v:Value) (b:aI) (k m:Int) (w:World) (h:RdB w w.heap.size v b) (hmw:(Lit.int .i64 m).wf=true):
  Calls Tryz.prog 47 #[v,.agg #[.int .i64 k,.int .i64 m]] w (Gives w (fun v=>.tuple #[v,.bool (fU b ⟨k,m⟩)]) fun v=>[bF v (jl b ⟨k,m⟩)]):=by
 obtain⟨G,gn,gc,G',n',c',D',dn,dc,hv⟩:=h.form;subst hv;obtain⟨hdn,hdl,hst,-⟩:=h.done;obtain⟨os,hos⟩:∃x,b.order.start=x:=⟨_,rfl⟩;obtain⟨st,jw⟩:∃x,b.state=x:=⟨_,rfl⟩;have lq:=af h;have HO:=af h.order;have pR:=Bx.mk hos;have jX:=Bx.mk jw;rw[jw] at hst;have HST:=af hst;have fF:Hid (b.done.length=dn):=af hdn.len;rw[hos] at HO;rw[hos,jw] at lq;rw[hos,jw]
 have S0:St w (((w.alloc (Obj.cells #[.int .i64 os,.slice G gn gc,.slice G' n' c',.slice D' dn dc,.int .i64 st] 28)).alloc (Obj.cells #[.int .i64 k,.int .i64 m] 64)).alloc (Obj.cells #[.int .i64 0,.slice none 0 0,.slice none 0 0,.slice none 0 0,.int .i64 0] 28))
   [ah w.heap.size 28 #[.int .i64 os,.slice G gn gc,.slice G' n' c',.slice D' dn dc,.int .i64 st],ah (w.heap.size+1) 64 #[.int .i64 k,.int .i64 m],ah (w.heap.size+2) 28 #[.int .i64 0,.slice none 0 0,.slice none 0 0,.slice none 0 0,.int .i64 0]]:=by
  have:=(((St.refl w).alloc #[.int .i64 os,.slice G gn gc,.slice G' n' c',.slice D' dn dc,.int .i64 st] 28).alloc #[.int .i64 k,.int .i64 m] 64).alloc #[.int .i64 0,.slice none 0 0,.slice none 0 0,.slice none 0 0,.int .i64 0] 28
  simpa using this
 have aQ:=af S0;obtain⟨bo,hok⟩:∃x,aP b=x:=⟨_,rfl⟩;have bC:=Bx.mk hok;clear S0 hdn h hos jw hst hok
 cases bo with
 |false=>
  obtain⟨e1,e2⟩:=BL (a:=⟨k,m⟩) bC.out;have YV:=Bx.mk e1;have HE2:=Bx.mk e2;clear e1 e2;go_enter Tryz.func47,Tryz.ntmps47
  go_wp2_with fail
  refine(cu _ b _ (lq.out.up aQ.out.below)).mono ?_;rw[bC.out];rintro e w1 ⟨rfl,hb1⟩;have bG:=af (aQ.out.quiet hb1);have q1:=bG.out.cells 2 rfl;have f1:=bG.out.free 2 rfl;clear hb1;go_wp2;refine bodyPost_ret (v:=.tuple #[.agg #[.int .i64 0,.slice none 0 0,.slice none 0 0,.slice none 0 0,.int .i64 0],.bool false]) (by simp[results,Tryz.results47,go_sem,q1]) rfl ⟨.agg #[.int .i64 0,.slice none 0 0,.slice none 0 0,.slice none 0 0,.int .i64 0],by rw[HE2.out],?_⟩;rw[YV.out];exact St.book0 (bG.out.fH 2 rfl _ _ _ _ _).below
 |true=>
  go_enter Tryz.func47,Tryz.ntmps47
  go_wp2_with fail
  refine(cu _ b _ (lq.out.up aQ.out.below)).mono ?_;rw[bC.out];rintro e w1 ⟨rfl,hb1⟩;have bG:=af (aQ.out.quiet hb1);have q1:=bG.out.cells 0 rfl;clear hb1 aQ
  go_wp2_with fail
  refine(nX _ b _ (lq.out.up bG.out.below)).mono ?_;rintro e w2 ⟨v2,rfl,s2⟩;obtain⟨A1,n1,c1,A2,n2,c2,A3,n3,c3,hv⟩:=s2.gW 0 rfl;rw[pR.out,jX.out] at hv;simp only[id_eq] at hv ⊢
  subst hv;obtain⟨g2,hg2⟩:∃g,w2.heap.size=g:=⟨_,rfl⟩
  have HS2:Hid (St w (w2.alloc (.cells #[.int .i64 os,.slice A1 n1 c1,.slice A2 n2 c2,.slice A3 n3 c3,.int .i64 st] 28)) [ah w.heap.size 28 #[.int .i64 os,.slice G gn gc,.slice G' n' c',.slice D' dn dc,.int .i64 st],ah (w.heap.size+1) 64 #[.int .i64 k,.int .i64 m],ah (w.heap.size+2) 28 #[.int .i64 0,.slice none 0 0,.slice none 0 0,.slice none 0 0,.int .i64 0],
   bF (.agg #[.int .i64 os,.slice A1 n1 c1,.slice A2 n2 c2,.slice A3 n3 c3,.int .i64 st]) b,ah g2 28 #[.int .i64 os,.slice A1 n1 c1,.slice A2 n2 c2,.slice A3 n3 c3,.int .i64 st]]):=af (by rw[←hg2];exact(bG.out.call s2).alloc _ _)
  have q2:=HS2.out.cells 0 rfl;have q3:=HS2.out.cells 1 rfl;clear s2 bG q1
  go_wp2_with fail
  refine(Ew _ b k m _ (lq.out.up HS2.out.below) bC.out hmw).mono ?_;rintro e w3 ⟨v4,ds,rfl,hds,s3⟩;obtain⟨A4,c4,hv4,-⟩:=s3.xq 0 rfl;obtain⟨dl,YW⟩:∃x,ds.length=x:=⟨_,rfl⟩;have afb:=Bx.mk YW;rw[YW] at hv4;subst hv4;have dV:=af (HS2.out.call s3);have q0:=dV.out.cells 0 rfl;have q4:=dV.out.cells 4 rfl;have q5:=dV.out.cells 2 rfl;have f4:=dV.out.free 4 rfl;have f5:=dV.out.free 2 rfl;clear s3 q2 q3 HS2 YW;obtain⟨o,ho⟩:∃x,aY b ⟨k,m⟩=x:=⟨_,rfl⟩;rw[ho] at hds ⊢
  cases o with
  |none=>
   obtain⟨e1,e2⟩:=fA bC.out ho;have YV:=Bx.mk e1;have HE2:=Bx.mk e2;clear e1 e2 ho hds;simp only[Option.isSome_none] at*
   try rw[hg2]
   go_wp2;refine bodyPost_ret (v:=.tuple #[.agg #[.int .i64 os,.slice A1 n1 c1,.slice A2 n2 c2,.slice A3 n3 c3,.int .i64 st],.bool false]) (by simp[results,Tryz.results47,go_sem,q5]) rfl ⟨.agg #[.int .i64 os,.slice A1 n1 c1,.slice A2 n2 c2,.slice A3 n3 c3,.int .i64 st],by rw[HE2.out],?_⟩;rw[YV.out];exact(dV.out.fH 2 rfl _ _ _ _ _).pick [3] (by decide) rfl rfl
  |some d=>
   obtain rfl:=hds d rfl;obtain⟨e1,e2⟩:=jD bC.out ho;have YV:=Bx.mk e1;have HE2:=Bx.mk e2;have hr:=qx bC.out ho;have aej:=Ey bC.out ho;obtain⟨z,hz⟩:∃z,aF b.order os ds=z:=⟨_,rfl⟩;have HZ:=Bx.mk hz;have HEZ:Bx (eH b ds=⟨b.order,ds,z⟩):=Bx.mk (by unfold eH;rw[pR.out,hz]);have hzw:(Lit.int .i64 z).wf=true:=Qe (by rw[←hz,←pR.out];exact hr) (by have:=((eF b.order b.order.start ds).1 hr).2.2.2;rw[pR.out,hz] at this;omega);clear e1 e2 ho hds hr hz;simp only[Option.isSome_some] at*
   try rw[hg2]
   have iM:Hid (St w (w3.setCell ⟨g2,3,none⟩ (.slice A4 dl c4)) [ah w.heap.size 28 #[.int .i64 os,.slice G gn gc,.slice G' n' c',.slice D' dn dc,.int .i64 st],ah (w.heap.size+1) 64 #[.int .i64 k,.int .i64 m],ah (w.heap.size+2) 28 #[.int .i64 0,.slice none 0 0,.slice none 0 0,.slice none 0 0,.int .i64 0],
    bF (.agg #[.int .i64 os,.slice A1 n1 c1,.slice A2 n2 c2,.slice A3 n3 c3,.int .i64 st]) b,ah g2 28 #[.int .i64 os,.slice A1 n1 c1,.slice A2 n2 c2,.slice A4 dl c4,.int .i64 st],aA (.slice A4 dl c4) ds]):=af (dV.out.set 4 rfl 3 (.slice A4 dl c4))
   have p0:=iM.out.cells 0 rfl;have adf:=af (iM.out.nY 5 rfl)
   go_wp2_with fail
   refine(lU _ b.order os A4 dl c4 ds _ (HO.out.up iM.out.below) adf.out).mono ?_;rw[HZ.out];rintro e w5 ⟨rfl,hb5⟩;have fV:=af (iM.out.quiet hb5);have r4:w5.cell? ⟨g2,4,none⟩=some (.int .i64 st):=fV.out.cells 4 rfl 4;have s4:=fV.out.free 4 rfl;clear hb5 p0 q0 q4 q5 f4 f5 dV iM
   go_upto_region 8 with(fail)
   have oJ:Hid (St w (w5.setCell ⟨g2,4,none⟩ (.int .i64 z)) [ah w.heap.size 28 #[.int .i64 os,.slice G gn gc,.slice G' n' c',.slice D' dn dc,.int .i64 st],ah (w.heap.size+1) 64 #[.int .i64 k,.int .i64 m],ah (w.heap.size+2) 28 #[.int .i64 0,.slice none 0 0,.slice none 0 0,.slice none 0 0,.int .i64 0],
    bF (.agg #[.int .i64 os,.slice A1 n1 c1,.slice A2 n2 c2,.slice A3 n3 c3,.int .i64 st]) b,ah g2 28 #[.int .i64 os,.slice A1 n1 c1,.slice A2 n2 c2,.slice A4 dl c4,.int .i64 z],aA (.slice A4 dl c4) ds]):=af (fV.out.set 4 rfl 4 (.int .i64 z))
   clear fV r4 s4;obtain⟨w6,hw6⟩:∃x,w5.setCell ⟨g2,4,none⟩ (.int .i64 z)=x:=⟨_,rfl⟩;rw[hw6] at oJ ⊢
   clear hw6;have r4:=oJ.out.cells 4 rfl;have r5:=oJ.out.cells 2 rfl;have s5:=oJ.out.free 2 rfl;go_wp2;have kX:=af (oJ.out.fH 2 rfl (.int .i64 os) (.slice A1 n1 c1) (.slice A2 n2 c2) (.slice A4 dl c4) (.int .i64 z));have q6:=kX.out.cells 2 rfl;refine bodyPost_ret (v:=.tuple #[.agg #[.int .i64 os,.slice A1 n1 c1,.slice A2 n2 c2,.slice A4 dl c4,.int .i64 z],.bool true]) (by simp[results,Tryz.results47,go_sem,q6]) rfl ⟨.agg #[.int .i64 os,.slice A1 n1 c1,.slice A2 n2 c2,.slice A4 dl c4,.int .i64 z],by rw[HE2.out],?_⟩;rw[YV.out,HEZ.out]
   have:=kX.out.pick [3,5] (by decide) rfl rfl
   exact((this.Tz.pick (L':=[oI (.agg #[.int .i64 os,.slice A1 n1 c1,.slice A2 n2 c2]) b.order,aA (.slice A4 dl c4) ds]) [0,2] (by decide) rfl rfl)).book' pR.out (by omega) hzw
theorem au.skip {P:Program} {Q:Exit→Act→World→Prop} {σ:Type} {val:σ→Nat→Value} {R:(Nat→Bool)→σ→World→Prop} {a:Act} {ops:Array Oper} {o:Oper} {l:List Oper} {i:Nat} (j t:Nat) (v:Bool) (k:au P Q val R a ops l (i+1))
  (hg:o.guard=some (j,!v):=by rfl) (hb:(o.after.any fun e=>Region.binds .any e&&e.on == j)=true:=by first | rfl | decide | kernel_rfl) (hdst:iI ops j=some t:=by rfl) (hs:decide (t<a.tmps.size)=true:=by kernel_rfl) (hl:decide (j<ops.size)=true:=by kernel_rfl)
  (hv:∀s,val s j= .bool v:=by intro _;rfl) (hu:∀s,val s i=undef:=by intro _;rfl) (hR:∀D s w,R D s w→R (upd D i) s w:=by intro _ _ _ h;exact h):au P Q val R a ops (o::l) i:=
 au.XL (fun D s wx h hDi hd hsh a' hS K hK=>by
  obtain⟨e,he,hx⟩:=Array.any_eq_true'.1 hb;rw[Bool.and_eq_true] at hx
  have hj:D j=true:=by
   have:=hd e he hx.1
   rwa[eq_of_beq hx.2] at this
  have eg:=hS.at_ j t (u:=.bool v) hdst hj hs hl (hv s);rw[if_neg (by rw[hS.wants hg hdst eg hs];cases v<;>simp)]
  have:=hK s wx (fun _ _=>rfl) (hR D s wx h)
  rwa[hu s] at this) k
end Go.Proofs.YtkmcengmglgdeaaGreatDoor
