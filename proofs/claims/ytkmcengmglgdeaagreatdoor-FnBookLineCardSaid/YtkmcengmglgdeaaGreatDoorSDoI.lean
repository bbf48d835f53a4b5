/- Joined texts: DoI, DoI2, Skip. -/
import Derived.Test.YtkmcengmglgdeaaGreatDoorSPermD
import Derived.Test.YtkmcengmglgdeaaGreatDoorSShortS
import Derived.Test.YtkmcengmglgdeaaGreatDoorSCopy
import Derived.Test.YtkmcengmglgdeaaGreatDoorSPush
import Derived.Test.YtkmcengmglgdeaaGreatDoorSReg

namespace Go.Proofs.YtkmcengmglgdeaaGreatDoor
set_option linter.unusedVariables false
set_option linter.unusedSimpArgs false
set_option maxRecDepth 100000
set_option maxHeartbeats 8000000
open Go.ChangeShapes Go.WideShapes Go.ChangeAt Go.RowKit
theorem pq (v:Value) (b:aG) (w:World) (h:RdB w w.heap.size v b):Calls Tryz.prog 49 #[v] w (Gives w id fun v'=>[aI v' b]):=by
 obtain⟨G,gn,gc,G',n',c',D',dn,dc,hv⟩:=h.form;subst hv;obtain⟨hdn,hdl,hst,-⟩:=h.done;obtain⟨os,hos⟩:∃x,b.order.start=x:=⟨_,rfl⟩;obtain⟨st,ja⟩:∃x,b.state=x:=⟨_,rfl⟩;have HO:=af h.order;have HD:=af hdn;have gy:Hid (b.done.length=dn):=af hdn.len;rw[ja] at hst;have HST:=af hst;rw[hos] at HO;rw[hos,ja]
 have S0:St w ((w.alloc (Obj.cells #[.int .i64 os,.slice G gn gc,.slice G' n' c',.slice D' dn dc,.int .i64 st] 28)).alloc (Obj.cells #[.int .i64 0,.slice none 0 0,.slice none 0 0,.slice none 0 0,.int .i64 0] 28)) [ah w.heap.size 28 #[.int .i64 os,.slice G gn gc,.slice G' n' c',.slice D' dn dc,.int .i64 st],ah (w.heap.size+1) 28 #[.int .i64 0,.slice none 0 0,.slice none 0 0,.slice none 0 0,.int .i64 0]]:=by
  have:=((St.refl w).alloc #[.int .i64 os,.slice G gn gc,.slice G' n' c',.slice D' dn dc,.int .i64 st] 28).alloc #[.int .i64 0,.slice none 0 0,.slice none 0 0,.slice none 0 0,.int .i64 0] 28
  simpa using this
 have aS:=af S0;clear S0 hdn h;go_enter Tryz.func49,Tryz.ntmps49
 go_upto_region 1 with(fail)
 refine kG (σ:=(Option Addr×Nat×Nat×Option Addr×Nat×Nat)×Option Addr×Nat)
  (fun s i=>match i with
   |0=>.pointer (some ⟨w.heap.size,0,none⟩)
   |1=>.agg #[.int .i64 os,.slice G gn gc,.slice G' n' c']
   |2=>.agg #[.int .i64 os,.slice s.1.1 s.1.2.1 s.1.2.2.1,.slice s.1.2.2.2.1 s.1.2.2.2.2.1 s.1.2.2.2.2.2]
   |3=>.pointer (some ⟨w.heap.size,3,none⟩)
   |4=>.slice D' dn dc
   |5=>.slice s.2.1 dn s.2.2
   |6=>.pointer (some ⟨w.heap.size,4,none⟩)
   |7=>.int .i64 st
   |8=>.agg #[.int .i64 os,.slice s.1.1 s.1.2.1 s.1.2.2.1,.slice s.1.2.2.2.1 s.1.2.2.2.2.1 s.1.2.2.2.2.2,.slice s.2.1 dn s.2.2,.int .i64 st]
   |_=>undef)
  (fun D s wx=>Sn w wx fun i=>match i with
   |0=>some (ah w.heap.size 28 #[.int .i64 os,.slice G gn gc,.slice G' n' c',.slice D' dn dc,.int .i64 st])
   |1=>some (ah (w.heap.size+1) 28 (if D 9=true then #[.int .i64 os,.slice s.1.1 s.1.2.1 s.1.2.2.1,.slice s.1.2.2.2.1 s.1.2.2.2.2.1 s.1.2.2.2.2.2,.slice s.2.1 dn s.2.2,.int .i64 st] else #[.int .i64 0,.slice none 0 0,.slice none 0 0,.slice none 0 0,.int .i64 0]))
   |2=>if D 2=true then some (lI (.agg #[.int .i64 os,.slice s.1.1 s.1.2.1 s.1.2.2.1,.slice s.1.2.2.2.1 s.1.2.2.2.2.1 s.1.2.2.2.2.2]) b.order) else none
   |3=>if D 5=true then some (ax (.slice s.2.1 dn s.2.2) b.done) else none
   |_=>none)
  ((none,0,0,none,0,0),none,0) ?_ ?_ ?_
 ·intro D hD;refine((Sn.dN aS.out).quiet ((ai _ _).drew)).congr fun i=>?_
  match i with
  |0=>rfl
  |1=>simp only[hD 9 (by decide)];rfl
  |2=>simp only[hD 2 (by decide)];rfl
  |3=>simp only[hD 5 (by decide)];rfl
  |q+4=>rfl
 ·refine Cs (fun D s wx hR _ hd _ _ hs K hK=>?_) ?_
  ·have e1:=hs.o 1 (.pointer (some ⟨w.heap.size,0,none⟩));clear hs;go_simp;exact hK s wx sv hR
  refine Cs (fun D s wx hR _ hd _ _ hs K hK=>?_) ?_
  ·have e3:=hs.v 0 3 hd;clear hs;have qk:=(hR.blk 0 rfl).cell;go_simp;exact hK s wx sv hR
  refine Cs (fun D s wx hR (hDi:D 2=false) hd hsh _ hs K hK=>?_) ?_
  ·have e4:=hs.v 1 4 hd;have g4:=aX e4;clear hs;have n8:D 8=false:=hsh.no hDi 8 rfl ⟨2,.data⟩ (by simp) rfl rfl;have n9:D 9=false:=hsh.no n8 9 rfl ⟨8,.data⟩ (by simp) rfl rfl;go_simp;refine(IQ _ b.order _ (HO.out.up hR.below)).mono ?_;rintro e w2 ⟨v2,rfl,s2⟩;obtain⟨C1,n1,c1,C2,n2,c2,hv⟩:=s2.abx 0 rfl;rw[hos] at hv;subst hv
   refine hK ((C1,n1,c1,C2,n2,c2),s.2) w2
    (fun j hj=>by
     match j,hj with
     |0,hj | 1,hj=>rfl
     |2,hj=>rw[hDi] at hj;cases hj
     |3,hj | 4,hj | 5,hj | 6,hj | 7,hj=>rfl
     |8,hj=>rw[n8] at hj;cases hj
     |9,hj=>rfl
     |_+10,hj=>rfl)
    ((hR.add 2 (if_neg (by rw[hDi];simp)) s2).congr
     (fun i=>by
      match i with
      |0=>rfl
      |1=>(show some (ah _ _ (if D 9=true then _ else _))=some (ah _ _ (if D 9=true then _ else _));rw[n9]<;>rfl)
      |2 | 3=>rfl
      |q+4=>exact(if_neg (show¬(q+4=2) by omega)).symm))
  refine Cs (fun D s wx hR _ hd _ _ hs K hK=>?_) ?_
  ·have e1:=hs.o 1 (.pointer (some ⟨w.heap.size,0,none⟩));clear hs;go_simp;exact hK s wx sv hR
  refine Cs (fun D s wx hR _ hd _ _ hs K hK=>?_) ?_
  ·have e6:=hs.v 3 6 hd;clear hs;have qk:=(hR.blk 0 rfl).cell;go_simp;exact hK s wx sv hR
  refine Cs (fun D s wx hR (hDi:D 5=false) hd hsh _ hs K hK=>?_) ?_
  ·have e7:=hs.v 4 7 hd;have g7:=aX e7;clear hs;have n8:D 8=false:=hsh.no hDi 8 rfl ⟨5,.data⟩ (by simp) rfl rfl;have n9:D 9=false:=hsh.no n8 9 rfl ⟨8,.data⟩ (by simp) rfl rfl;go_simp;refine(clone_any D' dn dc b.done _ (HD.out.up hR.below) (by omega)).mono ?_;rintro e w2 ⟨v2,rfl,s2⟩;obtain⟨C1,c1,hv,-⟩:=s2.uj 0 rfl;rw[gy.out] at hv;subst hv
   refine hK (s.1,C1,c1) w2
    (fun j hj=>by
     match j,hj with
     |0,hj | 1,hj | 2,hj | 3,hj | 4,hj=>rfl
     |5,hj=>rw[hDi] at hj;cases hj
     |6,hj | 7,hj=>rfl
     |8,hj=>rw[n8] at hj;cases hj
     |9,hj=>rfl
     |_+10,hj=>rfl)
    ((hR.add 3 (if_neg (by rw[hDi];simp)) s2).congr
     (fun i=>by
      match i with
      |0=>rfl
      |1=>(show some (ah _ _ (if D 9=true then _ else _))=some (ah _ _ (if D 9=true then _ else _));rw[n9]<;>rfl)
      |2 | 3=>rfl
      |q+4=>exact(if_neg (show¬(q+4=3) by omega)).symm))
  refine Cs (fun D s wx hR _ hd _ _ hs K hK=>?_) ?_
  ·have e1:=hs.o 1 (.pointer (some ⟨w.heap.size,0,none⟩));clear hs;go_simp;exact hK s wx sv hR
  refine Cs (fun D s wx hR _ hd _ _ hs K hK=>?_) ?_
  ·have e9:=hs.v 6 9 hd;clear hs;have qk:=(hR.blk 0 rfl).cell;go_simp;exact hK s wx sv hR
  refine Cs (fun D s wx hR _ hd _ _ hs K hK=>?_) ?_
  ·have e5:=hs.v 2 5 hd;have e8:=hs.v 5 8 hd;have e10:=hs.v 7 10 hd;have g5:=aX e5;have g8:=aX e8;have g10:=aX e10;clear hs;go_simp;exact hK s wx sv hR
  refine Cs (fun D s wx hR (hDi:D 9=false) hd _ _ hs K hK=>?_) ?_
  ·have e2:=hs.o 2 (.pointer (some ⟨(w.heap.size+1),0,none⟩));have e11:=hs.v 8 11 hd;clear hs;have kb:fU wx (w.heap.size+1) 28 #[.int .i64 0,.slice none 0 0,.slice none 0 0,.slice none 0 0,.int .i64 0]:=hR.blk 1 (by simp only[hDi]<;>rfl);have f0:=kb.frozen;have qk:=kb.cell;go_simp
   exact hK s _ sv ((hR.fF 1 (by simp only[hDi];rfl) _ _ _ _ _).congr
    (fun i=>by
     match i with
     |0 | 1 | 2 | 3=>rfl
     |q+4=>exact(if_neg (show¬(q+4=1) by omega)).symm))
  exact aj.nil
 ·intro D s wx hR hD;simp only[eH,Act.put,aO,aU,aW];have cu:Hid (St w wx [lI (.agg #[.int .i64 os,.slice s.1.1 s.1.2.1 s.1.2.2.1,.slice s.1.2.2.2.1 s.1.2.2.2.2.1 s.1.2.2.2.2.2]) b.order,ax (.slice s.2.1 dn s.2.2) b.done,ah (w.heap.size+1) 28 #[.int .i64 os,.slice s.1.1 s.1.2.1 s.1.2.2.1,.slice s.1.2.2.2.1 s.1.2.2.2.2.1 s.1.2.2.2.2.2,.slice s.2.1 dn s.2.2,.int .i64 st]]):=af (hR.eG [2,3,1] (by decide) (by simp only[List.map,hD 2 (by decide),hD 5 (by decide),hD 9 (by decide)]<;>rfl));clear hR hD;have q1:=cu.out.cells 2 rfl;go_wp2;refine bodyPost_ret (v:=.agg #[.int .i64 os,.slice s.1.1 s.1.2.1 s.1.2.2.1,.slice s.1.2.2.2.1 s.1.2.2.2.2.1 s.1.2.2.2.2.2,.slice s.2.1 dn s.2.2,.int .i64 st]) (by simp[results,Tryz.results49,go_sem,q1]) rfl ⟨_,rfl,?_⟩
  have:=cu.out.pick [0,1] (by decide) rfl rfl
  obtain⟨⟨bs,bg,bd⟩,aeK,bst⟩:=b
  simp only at hos ja
  subst hos ja;exact this.book (by rw[gy.out];omega) HST.out
def gX (o:Option (List Int)) (w:World) (e:Ending) (w':World):Prop:=∃v ds,e= .returned (.tuple #[v,.bool o.isSome])∧(∀d,o=some d→ds=d)∧St w w' [ax v ds]
theorem gX.no {o:Option (List Int)} {w w':World} (ho:o=none) (h:Below w.heap.size w w'):gX o w (.returned (.tuple #[.slice none 0 0,.bool false])) w':=
 ⟨_,[],by rw[ho];rfl,(fun d hd=>by rw[ho] at hd;cases hd),iw _ _ h⟩
theorem gX.no' {o:Option (List Int)} {w w':World} {v:Value} {ds:List Int} (ho:o=none) (h:St w w' [ax v ds]):gX o w (.returned (.tuple #[v,.bool false])) w':=
 ⟨_,ds,by rw[ho];rfl,(fun d hd=>by rw[ho] at hd;cases hd),h⟩
theorem gX.yes {o:Option (List Int)} {w w':World} {v:Value} {ds:List Int} (ho:o=some ds) (h:St w w' [ax v ds]):gX o w (.returned (.tuple #[v,.bool true])) w':=
 ⟨_,ds,by rw[ho];rfl,(fun d hd=>by rw[ho] at hd;injection hd),h⟩
theorem Rx {x:Int} (h0:0≤x) (h1:x≤1000000):(Lit.int .i64 x).wf=true:=bU (by omega)
theorem Gv {b:aG} {m:Int}:aZ b ⟨0,m⟩=if b.done.length<40∧m∈dO b.order b.state then some (b.done++[m]) else none:=by unfold aZ;rw[if_pos rfl]
theorem Gw {b:aG} {m:Int}:aZ b ⟨1,m⟩=if 1≤m∧m≤b.done.length then some (b.done.take (b.done.length-m.toNat)) else none:=by unfold aZ;rw[if_neg (by simp),if_pos rfl]
theorem done2 {b:aG} {m:Int}:aZ b ⟨2,m⟩=if m=0∧((fK b.order b.done).getD []).length<b.done.length then some ((fK b.order b.done).getD []) else none:=by unfold aZ;rw[if_neg (by simp),if_neg (by simp),if_pos rfl]
theorem Gx {b:aG} {m:Int}:aZ b ⟨3,m⟩=if m=0∧0<((dB b).getD []).length∧b.done.length+((dB b).getD []).length≤40 then some (b.done++(dB b).getD []) else none:=by unfold aZ;rw[if_neg (by simp),if_neg (by simp),if_neg (by simp),if_pos rfl]
theorem YE {b:aG} {k m:Int} (h0:k≠0) (h1:k≠1) (h2:k≠2) (h3:k≠3):aZ b ⟨k,m⟩=none:=by unfold aZ;rw[if_neg h0,if_neg h1,if_neg h2,if_neg h3]
theorem Fz (v:Value) (b:aG) (k m:Int) (w:World) (h:RdB w w.heap.size v b) (hok:aN b=true) (hmw:(Lit.int .i64 m).wf=true):
  Calls Tryz.prog 110 #[v,.agg #[.int .i64 k,.int .i64 m]] w (gX (aZ b ⟨k,m⟩) w):=by
 obtain⟨G,gn,gc,G',n',c',D',dn,dc,hv⟩:=h.form;subst hv;obtain⟨hdn,hdl,hst,-⟩:=h.done;have aby:=hdn.cap;have ZW:=hdn.dw
 unfold maxLen at ZW
 obtain⟨os,hos⟩:∃x,b.order.start=x:=⟨_,rfl⟩;obtain⟨st,ja⟩:∃x,b.state=x:=⟨_,rfl⟩;have lV:=af h;have HO:=af h.order;have HD:=af hdn;have gy:Hid (b.done.length=dn):=af hdn.len;have nP:=Bx.mk hos;have kK:=Bx.mk ja;have abz:=Bx.mk hok;have YF:=af hmw;rw[ja] at hst;have HST:=af hst;have zM:dn≤40:=by rw[←gy.out];exact(bF hok).2.1
 rw[hos] at HO;rw[hos,ja] at lV;rw[hos,ja]
 have S0:St w ((w.alloc (Obj.cells #[.int .i64 os,.slice G gn gc,.slice G' n' c',.slice D' dn dc,.int .i64 st] 28)).alloc (Obj.cells #[.int .i64 k,.int .i64 m] 64)) [ah w.heap.size 28 #[.int .i64 os,.slice G gn gc,.slice G' n' c',.slice D' dn dc,.int .i64 st],ah (w.heap.size+1) 64 #[.int .i64 k,.int .i64 m]]:=by
  have:=((St.refl w).alloc #[.int .i64 os,.slice G gn gc,.slice G' n' c',.slice D' dn dc,.int .i64 st] 28).alloc #[.int .i64 k,.int .i64 m] 64
  simpa using this
 have aS:=af S0;clear S0 hdn h hok hos ja hst hmw
 by_cases h0:k=0
 ·subst h0
  by_cases hge:40≤dn
  ·have HN:Bx (aZ b ⟨0,m⟩=none):=Bx.mk (by rw[Gv,if_neg (by rw[gy.out];omega)]);have ZX:(40:Int)≤(dn:Int):=by omega
   go_enter Tryz.func110,Tryz.ntmps110
   go_upto_region 4 with(fail)
   refine kG (σ:=Unit)
    (fun s i=>match i with
     |0=>.int .i64 (dn:Int)
     |1=>.bool true
     |2=>.bool true
     |12=>.bool true
     |_=>undef)
    (fun D s wx=>Sn w wx fun i=>match i with
     |0=>some (ah w.heap.size 28 #[.int .i64 os,.slice G gn gc,.slice G' n' c',.slice D' dn dc,.int .i64 st])
     |1=>some (ah (w.heap.size+1) 64 #[.int .i64 0,.int .i64 m])
     |_=>none)
    () ?_ ?_ ?_
   ·intro D hD;refine((Sn.dN aS.out).quiet ((ai _ _).drew)).congr fun i=>?_
    match i with
    |0 | 1=>rfl
    |q+2=>rfl
   ·refine Cs (fun D s wx hR _ hd _ _ hs K hK=>?_) ?_
    ·have e6:=hs.o 6 (.int .i64 (dn:Int));clear hs;go_simp;exact hK s wx sv hR
    refine Cs (fun D s wx hR _ hd _ _ hs K hK=>?_) ?_
    ·have e18:=hs.v 0 18 hd;clear hs;go_simp;exact hK s wx sv hR
    refine Cs (fun D s wx hR _ hd _ _ hs K hK=>?_) ?_
    ·have e19:=hs.v 1 19 hd;clear hs;go_simp;exact hK s wx sv hR
    refine dJ (fun D s wx hR _ hd _ _ hs K hK=>?_) ?_
    ·refine hs.jb 2 20 false hd ?_;exact hK s wx sv hR
    refine dJ (fun D s wx hR _ hd _ _ hs K hK=>?_) ?_
    ·refine hs.jb 2 20 false hd ?_;exact hK s wx sv hR
    refine dJ (fun D s wx hR _ hd _ _ hs K hK=>?_) ?_
    ·refine hs.jb 2 20 false hd ?_;exact hK s wx sv hR
    refine dJ (fun D s wx hR _ hd _ _ hs K hK=>?_) ?_
    ·refine hs.jb 2 20 false hd ?_;exact hK s wx sv hR
    refine dJ (fun D s wx hR _ hd _ _ hs K hK=>?_) ?_
    ·refine hs.jb 2 20 false hd ?_;exact hK s wx sv hR
    refine dJ (fun D s wx hR _ hd _ _ hs K hK=>?_) ?_
    ·refine hs.jb 2 20 false hd ?_;exact hK s wx sv hR
    refine dJ (fun D s wx hR _ hd _ _ hs K hK=>?_) ?_
    ·refine hs.jb 2 20 false hd ?_;exact hK s wx sv hR
    refine dJ (fun D s wx hR _ hd _ _ hs K hK=>?_) ?_
    ·refine hs.jb 2 20 false hd ?_;exact hK s wx sv hR
    refine dJ (fun D s wx hR _ hd _ _ hs K hK=>?_) ?_
    ·refine hs.jb 2 20 false hd ?_;exact hK s wx sv hR
    refine Cs (fun D s wx hR _ hd _ _ hs K hK=>?_) ?_
    ·have e20:=hs.v 2 20 hd;have e29:=hs.v 11 29 hd;clear hs;go_simp;exact hK s wx sv hR
    exact aj.nil
   ·intro D s wx hR hD;simp only[eH,Act.put,aO,aU,aW];have HB:=af (hR.eG [0,1] (L:=[ah w.heap.size 28 #[.int .i64 os,.slice G gn gc,.slice G' n' c',.slice D' dn dc,.int .i64 st],ah (w.heap.size+1) 64 #[.int .i64 0,.int .i64 m]]) (by decide) rfl).below;clear hR hD;go_wp2;exact bodyPost_ret (v:=.tuple #[.slice none 0 0,.bool false]) (by simp[results,Tryz.results110,go_sem]) rfl (gX.no HN.out HB.out)
  ·have ZX:¬(40:Int)≤(dn:Int):=by omega
   have aeL:(dn:Int)<40:=by omega
   obtain⟨may,hmay⟩:∃x,dO b.order st=x:=⟨_,rfl⟩;have DC:=Bx.mk hmay;obtain⟨bm,hbm⟩:∃x,decide (m∈may)=x:=⟨_,rfl⟩;have WY:=Bx.mk hbm;clear hmay hbm;go_enter Tryz.func110,Tryz.ntmps110
   go_upto_region 4 with(fail)
   refine kG (σ:=Option Addr×Nat)
    (fun s i=>match i with
     |0=>.int .i64 (dn:Int)
     |1=>.bool false
     |2=>.bool false
     |3=>.pointer (some ⟨w.heap.size,0,none⟩)
     |4=>.agg #[.int .i64 os,.slice G gn gc,.slice G' n' c']
     |5=>.pointer (some ⟨w.heap.size,4,none⟩)
     |6=>.int .i64 st
     |7=>.slice s.1 may.length s.2
     |8=>.pointer (some ⟨(w.heap.size+1),1,none⟩)
     |9=>.int .i64 m
     |10=>.bool bm
     |11=>.bool (!bm)
     |12=>.bool (!bm)
     |_=>undef)
    (fun D s wx=>Sn w wx fun i=>match i with
     |0=>some (ah w.heap.size 28 #[.int .i64 os,.slice G gn gc,.slice G' n' c',.slice D' dn dc,.int .i64 st])
     |1=>some (ah (w.heap.size+1) 64 #[.int .i64 0,.int .i64 m])
     |2=>if D 7=true then some (ax (.slice s.1 may.length s.2) may) else none
     |_=>none)
    (none,0) ?_ ?_ ?_
   ·intro D hD;refine((Sn.dN aS.out).quiet ((ai _ _).drew)).congr fun i=>?_
    match i with
    |0 | 1=>rfl
    |2=>simp only[hD 7 (by decide)];rfl
    |q+3=>rfl
   ·refine Cs (fun D s wx hR _ hd _ _ hs K hK=>?_) ?_
    ·have e6:=hs.o 6 (.int .i64 (dn:Int));clear hs;go_simp;exact hK s wx sv hR
    refine Cs (fun D s wx hR _ hd _ _ hs K hK=>?_) ?_
    ·have e18:=hs.v 0 18 hd;clear hs;go_simp;exact hK s wx sv hR
    refine Cs (fun D s wx hR _ hd _ _ hs K hK=>?_) ?_
    ·have e19:=hs.v 1 19 hd;clear hs;go_simp;exact hK s wx sv hR
    refine dJ (fun D s wx hR _ hd _ _ hs K hK=>?_) ?_
    ·refine hs.yes 2 20 false hd ?_;have e2:=hs.o 2 (.pointer (some ⟨w.heap.size,0,none⟩));clear hs;go_simp;exact hK s wx sv hR
    refine dJ (fun D s wx hR _ hd _ _ hs K hK=>?_) ?_
    ·refine hs.yes 2 20 false hd ?_;have e21:=hs.v 3 21 hd;clear hs;have qk:=(hR.blk 0 rfl).cell;go_simp;exact hK s wx sv hR
    refine dJ (fun D s wx hR _ hd _ _ hs K hK=>?_) ?_
    ·refine hs.yes 2 20 false hd ?_;have e2:=hs.o 2 (.pointer (some ⟨w.heap.size,0,none⟩));clear hs;go_simp;exact hK s wx sv hR
    refine dJ (fun D s wx hR _ hd _ _ hs K hK=>?_) ?_
    ·refine hs.yes 2 20 false hd ?_;have e23:=hs.v 5 23 hd;clear hs;have qk:=(hR.blk 0 rfl).cell;go_simp;exact hK s wx sv hR
    refine dJ (fun D s wx hR (hDi:D 7=false) hd hsh _ hs K hK=>?_) ?_
    ·refine hs.yes 2 20 false hd ?_;have e22:=hs.v 4 22 hd;have e24:=hs.v 6 24 hd;have g22:=aX e22;have g24:=aX e24;clear hs;have n10:D 10=false:=hsh.no hDi 10 rfl ⟨7,.data⟩ (by simp) rfl rfl;have n11:D 11=false:=hsh.no n10 11 rfl ⟨10,.data⟩ (by simp) rfl rfl;have n12:D 12=false:=hsh.no n11 12 rfl ⟨11,.data⟩ (by simp) rfl rfl;go_simp;refine(wS _ b.order st _ (HO.out.up hR.below)).mono ?_;rw[DC.out];rintro e2 w2 ⟨v2,rfl,s2⟩;obtain⟨A2,c2,hv,-⟩:=s2.uj 0 rfl;subst hv
     refine hK (A2,c2) w2
      (fun j hj=>by
       match j,hj with
       |0,hj | 1,hj | 2,hj | 3,hj | 4,hj | 5,hj | 6,hj=>rfl
       |7,hj=>rw[hDi] at hj;cases hj
       |8,hj | 9,hj=>rfl
       |10,hj=>rw[n10] at hj;cases hj
       |11,hj=>rw[n11] at hj;cases hj
       |12,hj=>rw[n12] at hj;cases hj
       |_+13,hj=>rfl)
      ((hR.add 2 (if_neg (by rw[hDi];simp)) s2).congr
       (fun i=>by
        match i with
        |0 | 1 | 2=>rfl
        |q+3=>exact(if_neg (show¬(q+3=2) by omega)).symm))
    refine dJ (fun D s wx hR _ hd _ _ hs K hK=>?_) ?_
    ·refine hs.yes 2 20 false hd ?_;have e3:=hs.o 3 (.pointer (some ⟨(w.heap.size+1),0,none⟩));clear hs;go_simp;exact hK s wx sv hR
    refine dJ (fun D s wx hR _ hd _ _ hs K hK=>?_) ?_
    ·refine hs.yes 2 20 false hd ?_;have e26:=hs.v 8 26 hd;clear hs;have qk:=(hR.blk 1 rfl).cell;go_simp;exact hK s wx sv hR
    refine dJ (fun D s wx hR _ hd _ _ hs K hK=>?_) ?_
    ·refine hs.yes 2 20 false hd ?_;have e25:=hs.v 7 25 hd;have e27:=hs.v 9 27 hd;have g25:=aX e25;have g27:=aX e27;clear hs;have d7:D 7=true:=hd ⟨7,.data⟩ (by simp) rfl;go_simp;refine(IU s.1 may.length s.2 may m _ (hR.oZ 2 (if_pos d7))).mono ?_;rw[WY.out];rintro e2 w2 ⟨rfl,rfl⟩;exact hK s wx sv hR
    refine dJ (fun D s wx hR _ hd _ _ hs K hK=>?_) ?_
    ·refine hs.yes 2 20 false hd ?_;have e28:=hs.v 10 28 hd;clear hs;go_simp;exact hK s wx sv hR
    refine Cs (fun D s wx hR _ hd _ _ hs K hK=>?_) ?_
    ·have e20:=hs.v 2 20 hd;have e29:=hs.v 11 29 hd;clear hs;go_simp;exact hK s wx sv hR
    exact aj.nil
   ·intro D s wx hR hD;simp only[eH,Act.put,aO,aU,aW];have bf:=af (hR.eG [0,1] (L:=[ah w.heap.size 28 #[.int .i64 os,.slice G gn gc,.slice G' n' c',.slice D' dn dc,.int .i64 st],ah (w.heap.size+1) 64 #[.int .i64 0,.int .i64 m]]) (by decide) rfl);clear hR hD aS;have q0:=bf.out.cells 0 rfl;have q1:=bf.out.cells 1 rfl
    cases bm with
    |false=>
     have HN:Bx (aZ b ⟨0,m⟩=none):=Bx.mk (by rw[Gv,if_neg (by rw[kK.out,DC.out];exact fun h=>of_decide_eq_false WY.out h.2)]);go_wp2;exact bodyPost_ret (v:=.tuple #[.slice none 0 0,.bool false]) (by simp[results,Tryz.results110,go_sem]) rfl (gX.no HN.out bf.out.below)
    |true=>
     have HY:Bx (aZ b ⟨0,m⟩=some (b.done++[m])):=Bx.mk (by rw[Gv,if_pos (by rw[kK.out,DC.out,gy.out];exact⟨by omega,of_decide_eq_true WY.out⟩)]);have S2:=(bf.out.call (St.lit wx [m] 1 rfl (by simp) (fun x hx=>by rw[List.mem_singleton.1 hx];exact YF.out))).alloc #[.slice D' dn dc,.slice (some ⟨wx.heap.size,0,none⟩) 1 1] 23;have hsz:(wx.alloc (.cells #[.int .i64 m] 3)).heap.size=wx.heap.size+1:=by simp
     have S2':=S2
     have YG:Hid (fU ((wx.alloc (.cells #[.int .i64 m] 3)).alloc (.cells #[.slice D' dn dc,.slice (some ⟨wx.heap.size,0,none⟩) 1 1] 23)) (wx.heap.size+1) 23 #[.slice D' dn dc,.slice (some ⟨wx.heap.size,0,none⟩) 1 1]):=af (by
      have:=S2.blk 3 (g:=(wx.alloc (.cells #[.int .i64 m] 3)).heap.size) rfl
      rw[hsz] at this
      exact this)
     have HR1:=af (S2.oZ 2 rfl);have HD2:=af (HD.out.up S2.below);have HS2:=af (S2.pick [0,1] (by decide) rfl rfl);clear S2 S2'
     go_wp2_with fail
     refine(DF (wx.heap.size+1) D' dn dc b.done (some ⟨wx.heap.size,0,none⟩) 1 1 [m] _ YG.out HD2.out HR1.out (by omega)).mono ?_;rintro e w3 ⟨v3,rfl,s3⟩;have cu:=af ((HS2.out.call s3).pick [2] (by decide) rfl rfl);clear s3 HS2 YG HR1 HD2 q0 q1;go_wp2;exact bodyPost_ret (v:=.tuple #[v3,.bool true]) (by simp[results,Tryz.results110,go_sem]) rfl (gX.yes HY.out cu.out)
 by_cases h1:k=1
 ·subst h1;clear h0
  by_cases hm1:1≤m
  case neg=>
   have HN:Bx (aZ b ⟨1,m⟩=none):=Bx.mk (by rw[Gw,if_neg (by omega)]);have adB:m<1:=by omega
   go_enter Tryz.func110,Tryz.ntmps110;go_wp2;exact bodyPost_ret (v:=.tuple #[.slice none 0 0,.bool false]) (by simp[results,Tryz.results110,go_sem]) rfl (gX.no HN.out aS.out.below)
  have adB:¬m<1:=by omega
  by_cases hm2:m≤dn
  case neg=>
   have HN:Bx (aZ b ⟨1,m⟩=none):=Bx.mk (by rw[Gw,if_neg (by rw[gy.out];omega)]);have adC:(dn:Int)<m:=by omega
   go_enter Tryz.func110,Tryz.ntmps110;go_wp2;exact bodyPost_ret (v:=.tuple #[.slice none 0 0,.bool false]) (by simp[results,Tryz.results110,go_sem]) rfl (gX.no HN.out aS.out.below)
  have adC:¬(dn:Int)<m:=by omega
  obtain⟨mm,rfl⟩:=bC (show 0≤m by omega);have HY:Bx (aZ b ⟨1,(mm:Int)⟩=some (b.done.take (dn-mm))):=Bx.mk (by rw[Gw,if_pos (by rw[gy.out];omega),gy.out,bW]);obtain⟨bb,off,x,rfl,-⟩:=HD.out.get (show 0<dn by omega);have hk1:dn-mm≤dn:=by omega
  have hk2:dn-mm≤dc:=by omega
  obtain⟨r,hr⟩:∃r,dn-mm=r:=⟨_,rfl⟩;have Ry:(dn:Int)-(mm:Int)=(r:Int):=by omega
  rw[hr] at HY hk1 hk2;have hrc:(r:Int)≤(dc:Int):=by omega
  go_enter Tryz.func110,Tryz.ntmps110
  go_wp2_with fail
  refine(clone_any (some ⟨bb,off,none⟩) r dc (b.done.take r) _ ((lW (HD.out.up aS.out.below) r (by omega))) (by omega)).mono ?_;rintro e w3 ⟨v3,rfl,s3⟩;have cu:=af ((aS.out.call s3).pick [2] (by decide) rfl rfl);clear s3;go_wp2;exact bodyPost_ret (v:=.tuple #[v3,.bool true]) (by simp[results,Tryz.results110,go_sem]) rfl (gX.yes HY.out cu.out)
 by_cases h2:k=2
 ·subst h2;clear h0 h1;obtain⟨sh,hsh⟩:∃x,(fK b.order b.done).getD []=x:=⟨_,rfl⟩;have Rz:=Bx.mk hsh;have WZ:Bx ((fK b.order b.done).isSome=true):=Bx.mk (by rw[mX abz.out];rfl);obtain⟨sl,hsl⟩:∃x,sh.length=x:=⟨_,rfl⟩;have KZ:=Bx.mk hsl
  have abA:sl≤40:=by
   rw[←hsl,←hsh,mX abz.out];exact Nat.le_trans (DI ..) (by rw[gy.out];exact zM)
  clear hsh hsl;go_enter Tryz.func110,Tryz.ntmps110
  go_wp2_with fail
  refine(DJ _ b.order D' dn dc b.done _ (HO.out.up aS.out.below) (HD.out.up aS.out.below)).mono ?_;rw[Rz.out,WZ.out];rintro e w3 ⟨v3,rfl,s3⟩;obtain⟨A3,c3,hv3,-⟩:=s3.uj 0 rfl;rw[KZ.out] at hv3;subst hv3;have cu:=af (aS.out.call s3);have q1:=cu.out.cells 1 rfl;clear s3
  by_cases hm0:m=0
  ·subst hm0
   by_cases hlt:sl<dn
   ·have HY:Bx (aZ b ⟨2,0⟩=some sh):=Bx.mk (by rw[done2,Rz.out,if_pos (by rw[KZ.out,gy.out];exact⟨rfl,hlt⟩)]);have ZY:(sl:Int)<(dn:Int):=by omega
    go_wp2;exact bodyPost_ret (v:=.tuple #[.slice A3 sl c3,.bool true]) (by simp[results,Tryz.results110,go_sem]) rfl (gX.yes HY.out (cu.out.pick [2] (by decide) rfl rfl))
   ·have HN:Bx (aZ b ⟨2,0⟩=none):=Bx.mk (by rw[done2,Rz.out,if_neg (by rw[KZ.out,gy.out];omega)]);have ZY:¬(sl:Int)<(dn:Int):=by omega
    go_wp2;exact bodyPost_ret (v:=.tuple #[.slice A3 sl c3,.bool false]) (by simp[results,Tryz.results110,go_sem]) rfl (gX.no' HN.out (cu.out.pick [2] (by decide) rfl rfl))
  ·have HN:Bx (aZ b ⟨2,m⟩=none):=Bx.mk (by rw[done2,if_neg (by omega)]);have adD:(m == 0)=false:=by simpa using hm0
   clear hm0;go_wp2;exact bodyPost_ret (v:=.tuple #[.slice A3 sl c3,.bool false]) (by simp[results,Tryz.results110,go_sem]) rfl (gX.no' HN.out (cu.out.pick [2] (by decide) rfl rfl))
 by_cases h3:k=3
 ·subst h3;clear h0 h1 h2;obtain⟨rr,hrr⟩:∃x,dB b=x:=⟨_,rfl⟩;have HRR:=Bx.mk hrr;go_enter Tryz.func110,Tryz.ntmps110
  go_wp2_with fail
  refine(sJ _ b _ (lV.out.up aS.out.below)).mono ?_;rw[HRR.out];rintro e w3 ⟨v3,rfl,s3⟩;have cu:=af (aS.out.call s3);have q0:=cu.out.cells 0 rfl;have q1:=cu.out.cells 1 rfl
  cases rr with
  |none=>
   have HN:Bx (aZ b ⟨3,m⟩=none):=Bx.mk (by rw[Gx,hrr,if_neg (by simp)]);clear hrr s3;simp only[Option.isSome_none,Option.getD_none] at*;go_wp2;exact bodyPost_ret (v:=.tuple #[.slice none 0 0,.bool false]) (by simp[results,Tryz.results110,go_sem]) rfl (gX.no HN.out cu.out.below)
  |some rest=>
   obtain⟨rl,hrl⟩:∃x,rest.length=x:=⟨_,rfl⟩;have HRL:=Bx.mk hrl;have abB:rl≤31:=by rw[←hrl];exact(qI hrr).2.1
   simp only[Option.isSome_some,Option.getD_some] at*;obtain⟨A3,c3,hv3,-⟩:=s3.uj 0 rfl;rw[hrl] at hv3;subst hv3;have Z4:¬(m=0∧0<rl∧dn+rl≤40)→aZ b ⟨3,m⟩=none:=fun h=>by rw[Gx,hrr,Option.getD_some,hrl,gy.out,if_neg h]
   have HYf:(m=0∧0<rl∧dn+rl≤40)→aZ b ⟨3,m⟩=some (b.done++rest):=fun h=>by rw[Gx,hrr,Option.getD_some,hrl,gy.out,if_pos h]
   clear hrr s3 hrl
   by_cases hm0:m=0
   case neg=>
    have HN:=Bx.mk (Z4 (fun h=>hm0 h.1));have adD:(m == 0)=false:=by simpa using hm0
    have aeM:(m != 0)=true:=by simpa using hm0
    clear hm0 HYf Z4;go_wp2;exact bodyPost_ret (v:=.tuple #[.slice none 0 0,.bool false]) (by simp[results,Tryz.results110,go_sem]) rfl (gX.no HN.out cu.out.below)
   subst hm0
   by_cases hr0:rl=0
   case pos=>
    have HN:=Bx.mk (Z4 (fun h=>by omega));subst hr0;clear HYf Z4;go_wp2;exact bodyPost_ret (v:=.tuple #[.slice none 0 0,.bool false]) (by simp[results,Tryz.results110,go_sem]) rfl (gX.no HN.out cu.out.below)
   have Z5:((rl:Int) == 0)=false:=by simp;exact hr0
   have adE:(0:Int)<(rl:Int):=by omega
   by_cases uf:dn+rl≤40
   case neg=>
    have HN:=Bx.mk (Z4 (fun h=>by omega));have YH:(40:Int)<(dn:Int)+(rl:Int):=by omega
    clear HYf Z4;go_wp2;exact bodyPost_ret (v:=.tuple #[.slice none 0 0,.bool false]) (by simp[results,Tryz.results110,go_sem]) rfl (gX.no HN.out cu.out.below)
   have HY:=Bx.mk (HYf ⟨rfl,by omega,uf⟩);have YH:¬(40:Int)<(dn:Int)+(rl:Int):=by omega
   clear Z4 HYf hr0;have S4:=cu.out.alloc #[.slice D' dn dc,.slice A3 rl c3] 23;have YG:=af (S4.blk 3 (g:=w3.heap.size) rfl);have HR1:=af (S4.oZ 2 rfl);have HD2:=af (HD.out.up S4.below);have fH:=af (S4.pick [0,1] (by decide) rfl rfl);clear S4
   go_wp2_with fail
   refine(DF w3.heap.size D' dn dc b.done A3 rl c3 rest _ YG.out HD2.out HR1.out (by omega)).mono ?_;rintro e w5 ⟨v5,rfl,s5⟩;have dX:=af ((fH.out.call s5).pick [2] (by decide) rfl rfl);clear s5 q0 q1;go_wp2;exact bodyPost_ret (v:=.tuple #[v5,.bool true]) (by simp[results,Tryz.results110,go_sem]) rfl (gX.yes HY.out dX.out)
 have HN:=Bx.mk (YE (b:=b) (m:=m) h0 h1 h2 h3);have h0':(k == 0)=false:=by simpa using h0
 have h1':(k == 1)=false:=by simpa using h1
 have h2':(k == 2)=false:=by simpa using h2
 have h3':(k == 3)=false:=by simpa using h3
 clear h0 h1 h2 h3;go_enter Tryz.func110,Tryz.ntmps110;go_wp2;exact bodyPost_ret (v:=.tuple #[.slice none 0 0,.bool false]) (by simp[results,Tryz.results110,go_sem]) rfl (gX.no HN.out aS.out.below)
section
variable {w W W' : World} {L : List dh}
theorem St.Dj {s st:Int} {gv dv ev:Value} {b:aG} (h:St w W (aI (.agg #[.int .i64 s,gv,dv,ev,.int .i64 st]) b::L)):St w W (lI (.agg #[.int .i64 s,gv,dv]) b.order::ax ev b.done::L):=
 h.split fun F ⟨gv',dv',ev',Ft,Fd,e,h1,h2,h3,h4,h5,h6⟩=>by
  simp only[Value.agg.injEq,Array.mk.injEq,List.cons.injEq,and_true,Value.int.injEq,true_and] at e;obtain⟨rfl,rfl,rfl,rfl,-⟩:=e;refine⟨Ft,Fd,h5,⟨h1,?_⟩,h2⟩;rw[h5] at h6;exact(List.nodup_append.1 h6).1
theorem St.book' {o:aB} {s st:Int} {gv dv ev:Value} {done:List Int} (hs:o.start=s) (h:St w W (lI (.agg #[.int .i64 s,gv,dv]) o::ax ev done::L)) (hd:done.length≤1048576) (hst:(Lit.int .i64 st).wf=true):
  St w W (aI (.agg #[.int .i64 s,gv,dv,ev,.int .i64 st]) ⟨o,done,st⟩::L):=by
 obtain⟨os,og,od⟩:=o
 simp only at hs
 subst hs;exact h.book hd hst
end
theorem Ba (v:Value) (b:aG) (k m:Int) (w:World) (h:RdB w w.heap.size v b) (hmw:(Lit.int .i64 m).wf=true):
  Calls Tryz.prog 47 #[v,.agg #[.int .i64 k,.int .i64 m]] w (Gives w (fun v=>.tuple #[v,.bool (eY b ⟨k,m⟩)]) fun v=>[aI v (dY b ⟨k,m⟩)]):=by
 obtain⟨G,gn,gc,G',n',c',D',dn,dc,hv⟩:=h.form;subst hv;obtain⟨hdn,hdl,hst,-⟩:=h.done;obtain⟨os,hos⟩:∃x,b.order.start=x:=⟨_,rfl⟩;obtain⟨st,ja⟩:∃x,b.state=x:=⟨_,rfl⟩;have lV:=af h;have HO:=af h.order;have nP:=Bx.mk hos;have kK:=Bx.mk ja;rw[ja] at hst;have HST:=af hst;have gy:Hid (b.done.length=dn):=af hdn.len;rw[hos] at HO;rw[hos,ja] at lV;rw[hos,ja]
 have S0:St w (((w.alloc (Obj.cells #[.int .i64 os,.slice G gn gc,.slice G' n' c',.slice D' dn dc,.int .i64 st] 28)).alloc (Obj.cells #[.int .i64 k,.int .i64 m] 64)).alloc (Obj.cells #[.int .i64 0,.slice none 0 0,.slice none 0 0,.slice none 0 0,.int .i64 0] 28))
   [ah w.heap.size 28 #[.int .i64 os,.slice G gn gc,.slice G' n' c',.slice D' dn dc,.int .i64 st],ah (w.heap.size+1) 64 #[.int .i64 k,.int .i64 m],ah (w.heap.size+2) 28 #[.int .i64 0,.slice none 0 0,.slice none 0 0,.slice none 0 0,.int .i64 0]]:=by
  have:=(((St.refl w).alloc #[.int .i64 os,.slice G gn gc,.slice G' n' c',.slice D' dn dc,.int .i64 st] 28).alloc #[.int .i64 k,.int .i64 m] 64).alloc #[.int .i64 0,.slice none 0 0,.slice none 0 0,.slice none 0 0,.int .i64 0] 28
  simpa using this
 have aS:=af S0;obtain⟨bo,hok⟩:∃x,aN b=x:=⟨_,rfl⟩;have bG:=Bx.mk hok;clear S0 hdn h hos ja hst hok
 cases bo with
 |false=>
  obtain⟨e1,e2⟩:=xu (a:=⟨k,m⟩) bG.out;have ZU:=Bx.mk e1;have HE2:=Bx.mk e2;clear e1 e2;go_enter Tryz.func47,Tryz.ntmps47
  go_wp2_with fail
  refine(dF _ b _ (lV.out.up aS.out.below)).mono ?_;rw[bG.out];rintro e w1 ⟨rfl,hb1⟩;have bf:=af (aS.out.quiet hb1);have q1:=bf.out.cells 2 rfl;have f1:=bf.out.free 2 rfl;clear hb1;go_wp2;refine bodyPost_ret (v:=.tuple #[.agg #[.int .i64 0,.slice none 0 0,.slice none 0 0,.slice none 0 0,.int .i64 0],.bool false]) (by simp[results,Tryz.results47,go_sem,q1]) rfl ⟨.agg #[.int .i64 0,.slice none 0 0,.slice none 0 0,.slice none 0 0,.int .i64 0],by rw[HE2.out],?_⟩;rw[ZU.out];exact St.book0 (bf.out.fF 2 rfl _ _ _ _ _).below
 |true=>
  go_enter Tryz.func47,Tryz.ntmps47
  go_wp2_with fail
  refine(dF _ b _ (lV.out.up aS.out.below)).mono ?_;rw[bG.out];rintro e w1 ⟨rfl,hb1⟩;have bf:=af (aS.out.quiet hb1);have q1:=bf.out.cells 0 rfl;clear hb1 aS
  go_wp2_with fail
  refine(pq _ b _ (lV.out.up bf.out.below)).mono ?_;rintro e w2 ⟨v2,rfl,s2⟩;obtain⟨A1,n1,c1,A2,n2,c2,A3,n3,c3,hv⟩:=s2.gU 0 rfl;rw[nP.out,kK.out] at hv;simp only[id_eq] at hv ⊢
  subst hv;obtain⟨g2,hg2⟩:∃g,w2.heap.size=g:=⟨_,rfl⟩
  have HS2:Hid (St w (w2.alloc (.cells #[.int .i64 os,.slice A1 n1 c1,.slice A2 n2 c2,.slice A3 n3 c3,.int .i64 st] 28)) [ah w.heap.size 28 #[.int .i64 os,.slice G gn gc,.slice G' n' c',.slice D' dn dc,.int .i64 st],ah (w.heap.size+1) 64 #[.int .i64 k,.int .i64 m],ah (w.heap.size+2) 28 #[.int .i64 0,.slice none 0 0,.slice none 0 0,.slice none 0 0,.int .i64 0],
   aI (.agg #[.int .i64 os,.slice A1 n1 c1,.slice A2 n2 c2,.slice A3 n3 c3,.int .i64 st]) b,ah g2 28 #[.int .i64 os,.slice A1 n1 c1,.slice A2 n2 c2,.slice A3 n3 c3,.int .i64 st]]):=af (by rw[←hg2];exact(bf.out.call s2).alloc _ _)
  have q2:=HS2.out.cells 0 rfl;have q3:=HS2.out.cells 1 rfl;clear s2 bf q1
  go_wp2_with fail
  refine(Fz _ b k m _ (lV.out.up HS2.out.below) bG.out hmw).mono ?_;rintro e w3 ⟨v4,ds,rfl,hds,s3⟩;obtain⟨A4,c4,hv4,-⟩:=s3.uj 0 rfl;obtain⟨dl,ZV⟩:∃x,ds.length=x:=⟨_,rfl⟩;have ae5:=Bx.mk ZV;rw[ZV] at hv4;subst hv4;have cu:=af (HS2.out.call s3);have q0:=cu.out.cells 0 rfl;have q4:=cu.out.cells 4 rfl;have q5:=cu.out.cells 2 rfl;have f4:=cu.out.free 4 rfl;have f5:=cu.out.free 2 rfl;clear s3 q2 q3 HS2 ZV;obtain⟨o,ho⟩:∃x,aZ b ⟨k,m⟩=x:=⟨_,rfl⟩;rw[ho] at hds ⊢
  cases o with
  |none=>
   obtain⟨e1,e2⟩:=fV bG.out ho;have ZU:=Bx.mk e1;have HE2:=Bx.mk e2;clear e1 e2 ho hds;simp only[Option.isSome_none] at*
   try rw[hg2]
   go_wp2;refine bodyPost_ret (v:=.tuple #[.agg #[.int .i64 os,.slice A1 n1 c1,.slice A2 n2 c2,.slice A3 n3 c3,.int .i64 st],.bool false]) (by simp[results,Tryz.results47,go_sem,q5]) rfl ⟨.agg #[.int .i64 os,.slice A1 n1 c1,.slice A2 n2 c2,.slice A3 n3 c3,.int .i64 st],by rw[HE2.out],?_⟩;rw[ZU.out];exact(cu.out.fF 2 rfl _ _ _ _ _).pick [3] (by decide) rfl rfl
  |some d=>
   obtain rfl:=hds d rfl;obtain⟨e1,e2⟩:=iZ bG.out ho;have ZU:=Bx.mk e1;have HE2:=Bx.mk e2;have hr:=qQ bG.out ho;have aeJ:=FB bG.out ho;obtain⟨z,hz⟩:∃z,aC b.order os ds=z:=⟨_,rfl⟩;have HZ:=Bx.mk hz;have HEZ:Bx (eX b ds=⟨b.order,ds,z⟩):=Bx.mk (by unfold eX;rw[nP.out,hz]);have hzw:(Lit.int .i64 z).wf=true:=Rx (by rw[←hz,←nP.out];exact hr) (by have:=((fE b.order b.order.start ds).1 hr).2.2.2;rw[nP.out,hz] at this;omega);clear e1 e2 ho hds hr hz;simp only[Option.isSome_some] at*
   try rw[hg2]
   have fH:Hid (St w (w3.setCell ⟨g2,3,none⟩ (.slice A4 dl c4)) [ah w.heap.size 28 #[.int .i64 os,.slice G gn gc,.slice G' n' c',.slice D' dn dc,.int .i64 st],ah (w.heap.size+1) 64 #[.int .i64 k,.int .i64 m],ah (w.heap.size+2) 28 #[.int .i64 0,.slice none 0 0,.slice none 0 0,.slice none 0 0,.int .i64 0],
    aI (.agg #[.int .i64 os,.slice A1 n1 c1,.slice A2 n2 c2,.slice A3 n3 c3,.int .i64 st]) b,ah g2 28 #[.int .i64 os,.slice A1 n1 c1,.slice A2 n2 c2,.slice A4 dl c4,.int .i64 st],ax (.slice A4 dl c4) ds]):=af (cu.out.set 4 rfl 3 (.slice A4 dl c4))
   have p0:=fH.out.cells 0 rfl;have adA:=af (fH.out.oZ 5 rfl)
   go_wp2_with fail
   refine(mW _ b.order os A4 dl c4 ds _ (HO.out.up fH.out.below) adA.out).mono ?_;rw[HZ.out];rintro e w5 ⟨rfl,hb5⟩;have dX:=af (fH.out.quiet hb5);have r4:w5.cell? ⟨g2,4,none⟩=some (.int .i64 st):=dX.out.cells 4 rfl 4;have s4:=dX.out.free 4 rfl;clear hb5 p0 q0 q4 q5 f4 f5 cu fH
   go_upto_region 8 with(fail)
   have jB:Hid (St w (w5.setCell ⟨g2,4,none⟩ (.int .i64 z)) [ah w.heap.size 28 #[.int .i64 os,.slice G gn gc,.slice G' n' c',.slice D' dn dc,.int .i64 st],ah (w.heap.size+1) 64 #[.int .i64 k,.int .i64 m],ah (w.heap.size+2) 28 #[.int .i64 0,.slice none 0 0,.slice none 0 0,.slice none 0 0,.int .i64 0],
    aI (.agg #[.int .i64 os,.slice A1 n1 c1,.slice A2 n2 c2,.slice A3 n3 c3,.int .i64 st]) b,ah g2 28 #[.int .i64 os,.slice A1 n1 c1,.slice A2 n2 c2,.slice A4 dl c4,.int .i64 z],ax (.slice A4 dl c4) ds]):=af (dX.out.set 4 rfl 4 (.int .i64 z))
   clear dX r4 s4;obtain⟨w6,hw6⟩:∃x,w5.setCell ⟨g2,4,none⟩ (.int .i64 z)=x:=⟨_,rfl⟩;rw[hw6] at jB ⊢
   clear hw6;have r4:=jB.out.cells 4 rfl;have r5:=jB.out.cells 2 rfl;have s5:=jB.out.free 2 rfl;go_wp2;have je:=af (jB.out.fF 2 rfl (.int .i64 os) (.slice A1 n1 c1) (.slice A2 n2 c2) (.slice A4 dl c4) (.int .i64 z));have q6:=je.out.cells 2 rfl;refine bodyPost_ret (v:=.tuple #[.agg #[.int .i64 os,.slice A1 n1 c1,.slice A2 n2 c2,.slice A4 dl c4,.int .i64 z],.bool true]) (by simp[results,Tryz.results47,go_sem,q6]) rfl ⟨.agg #[.int .i64 os,.slice A1 n1 c1,.slice A2 n2 c2,.slice A4 dl c4,.int .i64 z],by rw[HE2.out],?_⟩;rw[ZU.out,HEZ.out]
   have:=je.out.pick [3,5] (by decide) rfl rfl
   exact((this.Dj.pick (L':=[lI (.agg #[.int .i64 os,.slice A1 n1 c1,.slice A2 n2 c2]) b.order,ax (.slice A4 dl c4) ds]) [0,2] (by decide) rfl rfl)).book' nP.out (by omega) hzw
theorem aj.skip {P:Program} {Q:Exit→Act→World→Prop} {σ:Type} {val:σ→Nat→Value} {R:(Nat→Bool)→σ→World→Prop} {a:Act} {ops:Array Oper} {o:Oper} {l:List Oper} {i:Nat} (j t:Nat) (v:Bool) (k:aj P Q val R a ops l (i+1))
  (hg:o.guard=some (j,!v):=by rfl) (hb:(o.after.any fun e=>Region.binds .any e&&e.on == j)=true:=by first | rfl | decide | kernel_rfl) (hdst:iT ops j=some t:=by rfl) (hs:decide (t<a.tmps.size)=true:=by kernel_rfl) (hl:decide (j<ops.size)=true:=by kernel_rfl)
  (hv:∀s,val s j= .bool v:=by intro _;rfl) (hu:∀s,val s i=undef:=by intro _;rfl) (hR:∀D s w,R D s w→R (upd D i) s w:=by intro _ _ _ h;exact h):aj P Q val R a ops (o::l) i:=
 aj.Yy (fun D s wx h hDi hd hsh a' hS K hK=>by
  obtain⟨e,he,hx⟩:=Array.any_eq_true'.1 hb;rw[Bool.and_eq_true] at hx
  have hj:D j=true:=by
   have:=hd e he hx.1
   rwa[eq_of_beq hx.2] at this
  have eg:=hS.at_ j t (u:=.bool v) hdst hj hs hl (hv s);rw[if_neg (by rw[hS.wants hg hdst eg hs];cases v<;>simp)]
  have:=hK s wx (fun _ _=>rfl) (hR D s wx h)
  rwa[hu s] at this) k
end Go.Proofs.YtkmcengmglgdeaaGreatDoor
