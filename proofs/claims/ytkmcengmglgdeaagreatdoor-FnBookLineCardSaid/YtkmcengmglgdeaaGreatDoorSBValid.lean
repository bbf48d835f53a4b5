/- A part of the proof: BValid. -/
import Derived.Test.YtkmcengmglgdeaaGreatDoorSPush
namespace Go.Proofs.YtkmcengmglgdeaaGreatDoor
set_option linter.unusedVariables false
set_option linter.unusedSimpArgs false
set_option maxRecDepth 100000
set_option maxHeartbeats 8000000
open Go.ChangeShapes Go.WideShapes Go.ChangeAt Go.RowKit
def aN (b:aG):Bool:=aK b.order&&decide (b.done.length≤40)&&iJ b.state&&(aC b.order b.order.start b.done == b.state)
theorem fE (t:aB) (s:Int) (p:List Int):(0≤aC t s p→aK t=true∧iJ s=true∧p.length≤40∧aC t s p<32)∧-1≤aC t s p:=by
 unfold aC
 split
 ·rename_i h;obtain⟨h1,h2,h3⟩:=h
  cases hr:jY t s.toNat p with
  |none=>simp[opt]
  |some s'=>
   have:=CP t s.toNat p s' h1 (by have:=(aV s).1 h2;omega) hr
   simp only[opt];exact⟨fun _=>⟨h1,h2,h3,by omega⟩,by omega⟩
 ·exact⟨fun h=>absurd h (by omega),by omega⟩
theorem uT (b:aG):aN b=(aK b.order&&(aC b.order b.order.start b.done == b.state)&&decide (0≤b.state)):=by
 unfold aN
 have h:=fE b.order b.order.start b.done
 cases h1:aK b.order
 ·simp
 by_cases h2:aC b.order b.order.start b.done=b.state
 ·by_cases h3:0≤b.state
  ·obtain⟨_,_,h4,h5⟩:=h.1 (by omega)
   simp[h2,h3,h4,iJ];omega
  ·have:iJ b.state=false:=(vP _).2 (by omega)
   simp[h2,h3,this]
 ·have:(aC b.order b.order.start b.done == b.state)=false:=by simpa using h2
  rw[this];simp
def iU (xs:List Int) (s:Int):Bool:=codeOk xs&&iJ s&&aH xs s.toNat
theorem jV (A:Option Addr) (n c:Nat) (xs:List Int) (s:Int) (w:World) (h:jd .i64 w w.heap.size A n c xs):
  Calls Tryz.prog 89 #[.slice A n c,.int .i64 s] w fun e w'=>e= .returned (.bool (iU xs s))∧Below w.heap.size w w':=by
 have H:=af h;clear h;obtain⟨bc,hc⟩:∃b,codeOk xs=b:=⟨_,rfl⟩;have HC:=af hc;clear hc;obtain⟨bs,hs⟩:∃b,iJ s=b:=⟨_,rfl⟩;have HS:=af hs;clear hs
 cases bc with
 |false=>
  go_enter Tryz.func89,Tryz.ntmps89
  go_wp2_with fail
  refine(dZ A n c xs _ H.out).mono ?_;rw[HC.out];rintro e w1 ⟨rfl,rfl⟩;go_wp2;go_ret;exact⟨aY (by unfold iU;rw[HC.out];rfl),ai _ _⟩
 |true=>
  cases bs with
  |false=>
   go_enter Tryz.func89,Tryz.ntmps89
   go_wp2_with fail
   refine(dZ A n c xs _ H.out).mono ?_;rw[HC.out];rintro e w1 ⟨rfl,rfl⟩
   go_wp2_with fail
   refine(dS s _).mono ?_;rw[HS.out];rintro e w1 ⟨rfl,rfl⟩;go_wp2;go_ret;exact⟨aY (by unfold iU;rw[HC.out,HS.out];rfl),ai _ _⟩
  |true=>
   obtain⟨hs0,hs1⟩:=(aV s).1 HS.out;obtain⟨m,rfl⟩:=bC hs0;go_enter Tryz.func89,Tryz.ntmps89
   go_wp2_with fail
   refine(dZ A n c xs _ H.out).mono ?_;rw[HC.out];rintro e w1 ⟨rfl,rfl⟩
   go_wp2_with fail
   refine(dS m _).mono ?_;rw[HS.out];rintro e w1 ⟨rfl,rfl⟩
   go_wp2_with fail
   refine(uD A n c xs m _ H.out HC.out (by omega)).mono ?_;rintro e w2 ⟨rfl,hb⟩;go_wp2;go_ret;exact⟨aY (by unfold iU;rw[HC.out,HS.out];simp),hb⟩
def fA (b:aG):Bool:=aN b&&aH b.order.goal b.state.toNat
theorem FI (b:aG):(aN b&&iU b.order.goal b.state)=fA b:=by
 unfold fA iU
 cases h:aN b
 ·rfl
 ·unfold aN at h
  simp only[Bool.and_eq_true] at h;rw[(aJ _ h.1.1.1).2.1,h.1.2];simp
section
variable {w : World}
end
theorem dF (v:Value) (b:aG) (w:World) (h:RdB w w.heap.size v b):
  Calls Tryz.prog 16 #[v] w fun e w'=>e= .returned (.bool (aN b))∧Below w.heap.size w w':=by
 obtain⟨A,n,c,A',n',c',A2,n2,c2,hv⟩:=h.form;subst hv;obtain⟨hdn,hdl,hst,-⟩:=h.done;have hl:=hdn.len;have hcp:=hdn.cap;have hcm:=hdn.dw
 unfold maxLen at hcm
 have HL:=af hl;have S0:=(St.refl w).alloc #[.int .i64 b.order.start,.slice A n c,.slice A' n' c',.slice A2 n2 c2,.int .i64 b.state] 28;have HO:=af h.order;have HD:=af hdn;have aS:=af S0;clear S0 hl hdn;obtain⟨bo,hok⟩:∃b',aK b.order=b':=⟨_,rfl⟩;have bG:=af hok;clear hok
 cases bo with
 |false=>
  go_enter Tryz.func16,Tryz.ntmps16
  go_wp2_with fail
  refine(bZ _ b.order _ (HO.out.up aS.out.below)).mono ?_;rw[bG.out];rintro e w1 ⟨rfl,hb1⟩;go_wp2;go_ret;exact⟨aY (by unfold aN;rw[bG.out];rfl),(aS.out.quiet hb1).below⟩
 |true=>
  go_enter Tryz.func16,Tryz.ntmps16
  go_wp2_with fail
  refine(bZ _ b.order _ (HO.out.up aS.out.below)).mono ?_;rw[bG.out];rintro e w1 ⟨rfl,hb1⟩;have S1:=aS.out.quiet hb1;have q0:=S1.cells 0 rfl;have bf:=af S1;clear S1 hb1
  by_cases Rl:n2≤40
  case neg=>
   go_wp2;go_ret;exact⟨aY (by unfold aN;rw[decide_eq_false (by rw[HL.out];exact Rl)];simp),bf.out.below⟩
  obtain⟨bs,hs⟩:∃b',iJ b.state=b':=⟨_,rfl⟩;have HS:=af hs;clear hs
  go_wp2_with fail
  refine(dS b.state _).mono ?_;rw[HS.out];rintro e w2 ⟨rfl,rfl⟩
  cases bs with
  |false=>
   go_wp2;go_ret;exact⟨aY (by unfold aN;rw[HS.out];simp),bf.out.below⟩
  |true=>
  obtain⟨bp,hp⟩:∃b',(aC b.order b.order.start b.done == b.state)=b':=⟨_,rfl⟩;have HP:=af hp;clear hp q0
  go_upto_region 3 with(fail)
  refine kG (σ:=Nat)
   (fun s i=>match i with
    |0=>.pointer (some ⟨w.heap.size,0,none⟩)
    |1=>.agg #[.int .i64 b.order.start,.slice A n c,.slice A' n' c']
    |2=>.pointer (some ⟨w.heap.size,0,none⟩)
    |3=>.pointer (some ⟨w.heap.size,0,none⟩)
    |4=>.int .i64 b.order.start
    |5=>.pointer (some ⟨w.heap.size,3,none⟩)
    |6=>.slice A2 n2 c2
    |7=>.int .i64 (aC b.order b.order.start b.done)
    |8=>.pointer (some ⟨w.heap.size,4,none⟩)
    |9=>.int .i64 b.state
    |10=>.bool bp
    |11=>.bool bp
    |_=>undef)
   (fun D s wx=>Sn w wx fun i=>match i with
    |0=>some (ah w.heap.size 28 #[.int .i64 b.order.start,.slice A n c,.slice A' n' c',.slice A2 n2 c2,.int .i64 b.state])
    |_=>none)
   0 ?_ ?_ ?_
  ·intro D hD;refine((Sn.dN bf.out).quiet ((ai _ _).drew)).congr fun i=>?_
   match i with
   |0=>rfl
   |q+1=>rfl
  ·refine Cs (fun D s wx hR _ hd _ _ hs K hK=>?_) ?_
   ·have e1:=hs.o 1 (.pointer (some ⟨w.heap.size,0,none⟩));clear hs;go_simp;exact hK s wx sv hR
   refine Cs (fun D s wx hR _ hd _ _ hs K hK=>?_) ?_
   ·have e19:=hs.v 0 19 hd;clear hs;have qk:=(hR.blk 0 rfl).cell;go_simp;exact hK s wx sv hR
   refine Cs (fun D s wx hR _ hd _ _ hs K hK=>?_) ?_
   ·have e1:=hs.o 1 (.pointer (some ⟨w.heap.size,0,none⟩));clear hs;go_simp;exact hK s wx sv hR
   refine Cs (fun D s wx hR _ hd _ _ hs K hK=>?_) ?_
   ·have e21:=hs.v 2 21 hd;clear hs;go_simp;exact hK s wx sv hR
   refine Cs (fun D s wx hR _ hd _ _ hs K hK=>?_) ?_
   ·have e22:=hs.v 3 22 hd;clear hs;have qk:=(hR.blk 0 rfl).cell;go_simp;exact hK s wx sv hR
   refine Cs (fun D s wx hR _ hd _ _ hs K hK=>?_) ?_
   ·have e1:=hs.o 1 (.pointer (some ⟨w.heap.size,0,none⟩));clear hs;go_simp;exact hK s wx sv hR
   refine Cs (fun D s wx hR _ hd _ _ hs K hK=>?_) ?_
   ·have e24:=hs.v 5 24 hd;clear hs;have qk:=(hR.blk 0 rfl).cell;go_simp;exact hK s wx sv hR
   refine Cs (fun D s wx hR _ hd _ _ hs K hK=>?_) ?_
   ·have e20:=hs.v 1 20 hd;have e23:=hs.v 4 23 hd;have e25:=hs.v 6 25 hd;have g20:=aX e20;have g23:=aX e23;have g25:=aX e25;clear hs;go_simp;refine(mW _ b.order b.order.start A2 n2 c2 b.done _ (HO.out.up hR.below) (HD.out.up hR.below)).mono ?_;rintro e w3 ⟨rfl,hb3⟩;exact hK s w3 sv (hR.quiet hb3)
   refine Cs (fun D s wx hR _ hd _ _ hs K hK=>?_) ?_
   ·have e1:=hs.o 1 (.pointer (some ⟨w.heap.size,0,none⟩));clear hs;go_simp;exact hK s wx sv hR
   refine Cs (fun D s wx hR _ hd _ _ hs K hK=>?_) ?_
   ·have e27:=hs.v 8 27 hd;clear hs;have qk:=(hR.blk 0 rfl).cell;go_simp;exact hK s wx sv hR
   refine Cs (fun D s wx hR _ hd _ _ hs K hK=>?_) ?_
   ·have e26:=hs.v 7 26 hd;have e28:=hs.v 9 28 hd;clear hs;go_simp;rw[HP.out];exact hK s wx sv hR
   refine Cs (fun D s wx hR _ hd _ _ hs K hK=>?_) ?_
   ·have e29:=hs.v 10 29 hd;clear hs;go_simp;exact hK s wx sv hR
   exact aj.nil
  ·intro D s wx hR hD;simp only[eH,Act.put,aO,aU,aW];have M3:=hR.below;clear hR hD;go_wp2;go_ret;exact⟨aY (by unfold aN;rw[bG.out,HS.out,HP.out,decide_eq_true (by rw[HL.out];exact Rl)];simp),M3⟩
theorem dM (v:Value) (b:aG) (w:World) (h:RdB w w.heap.size v b):
  Calls Tryz.prog 12 #[v] w fun e w'=>e= .returned (.bool (aN b))∧Below w.heap.size w w':=by
 obtain⟨A,n,c,A',n',c',A2,n2,c2,hv⟩:=h.form;subst hv;obtain⟨hdn,hdl,hst,-⟩:=h.done;have hl:=hdn.len;have hcp:=hdn.cap;have hcm:=hdn.dw
 unfold maxLen at hcm
 have HL:=af hl;have S0:=(St.refl w).alloc #[.int .i64 b.order.start,.slice A n c,.slice A' n' c',.slice A2 n2 c2,.int .i64 b.state] 28;have HO:=af h.order;have HD:=af hdn;have aS:=af S0;clear S0 hl hdn;obtain⟨bo,hok⟩:∃b',aK b.order=b':=⟨_,rfl⟩;have bG:=af hok;clear hok;obtain⟨bp,hp⟩:∃b',(aC b.order b.order.start b.done == b.state)=b':=⟨_,rfl⟩;have HP:=af hp;clear hp;obtain⟨bn,hn⟩:∃b',decide (0≤b.state)=b':=⟨_,rfl⟩;have HN:=af hn;clear hn
 cases bo with
 |false=>
  go_enter Tryz.func12,Tryz.ntmps12
  go_upto_region 1 with(fail)
  refine kG (σ:=Nat)
   (fun s i=>match i with
    |0=>.pointer (some ⟨w.heap.size,0,none⟩)
    |1=>.agg #[.int .i64 b.order.start,.slice A n c,.slice A' n' c']
    |2=>.bool false
    |3=>.bool false
    |15=>.bool false
    |16=>.bool false
    |20=>.bool false
    |21=>.bool false
    |_=>undef)
   (fun D s wx=>Sn w wx fun i=>match i with
    |0=>some (ah w.heap.size 28 #[.int .i64 b.order.start,.slice A n c,.slice A' n' c',.slice A2 n2 c2,.int .i64 b.state])
    |_=>none)
   0 ?_ ?_ ?_
  ·intro D hD;refine((Sn.dN aS.out).quiet ((ai _ _).drew)).congr fun i=>?_
   match i with
   |0=>rfl
   |q+1=>rfl
  ·refine Cs (fun D s wx hR _ hd _ _ hs K hK=>?_) ?_
   ·have e1:=hs.o 1 (.pointer (some ⟨w.heap.size,0,none⟩));clear hs;go_simp;exact hK s wx sv hR
   refine Cs (fun D s wx hR _ hd _ _ hs K hK=>?_) ?_
   ·have e3:=hs.v 0 3 hd;clear hs;have qk:=(hR.blk 0 rfl).cell;go_simp;exact hK s wx sv hR
   refine Cs (fun D s wx hR _ hd _ _ hs K hK=>?_) ?_
   ·have e4:=hs.v 1 4 hd;have g4:=aX e4;clear hs;go_simp;refine(bV _ b.order _ (HO.out.up hR.below)).mono ?_;rw[bG.out];rintro e w3 ⟨rfl,hb3⟩;exact hK s w3 sv (hR.quiet hb3)
   refine Cs (fun D s wx hR _ hd _ _ hs K hK=>?_) ?_
   ·have e5:=hs.v 2 5 hd;clear hs;go_simp;exact hK s wx sv hR
   refine dJ (fun D s wx hR _ hd _ _ hs K hK=>?_) ?_
   ·refine hs.jb 3 6 true hd ?_;exact hK s wx sv hR
   refine dJ (fun D s wx hR _ hd _ _ hs K hK=>?_) ?_
   ·refine hs.jb 3 6 true hd ?_;exact hK s wx sv hR
   refine dJ (fun D s wx hR _ hd _ _ hs K hK=>?_) ?_
   ·refine hs.jb 3 6 true hd ?_;exact hK s wx sv hR
   refine dJ (fun D s wx hR _ hd _ _ hs K hK=>?_) ?_
   ·refine hs.jb 3 6 true hd ?_;exact hK s wx sv hR
   refine dJ (fun D s wx hR _ hd _ _ hs K hK=>?_) ?_
   ·refine hs.jb 3 6 true hd ?_;exact hK s wx sv hR
   refine dJ (fun D s wx hR _ hd _ _ hs K hK=>?_) ?_
   ·refine hs.jb 3 6 true hd ?_;exact hK s wx sv hR
   refine dJ (fun D s wx hR _ hd _ _ hs K hK=>?_) ?_
   ·refine hs.jb 3 6 true hd ?_;exact hK s wx sv hR
   refine dJ (fun D s wx hR _ hd _ _ hs K hK=>?_) ?_
   ·refine hs.jb 3 6 true hd ?_;exact hK s wx sv hR
   refine dJ (fun D s wx hR _ hd _ _ hs K hK=>?_) ?_
   ·refine hs.jb 3 6 true hd ?_;exact hK s wx sv hR
   refine dJ (fun D s wx hR _ hd _ _ hs K hK=>?_) ?_
   ·refine hs.jb 3 6 true hd ?_;exact hK s wx sv hR
   refine dJ (fun D s wx hR _ hd _ _ hs K hK=>?_) ?_
   ·refine hs.jb 3 6 true hd ?_;exact hK s wx sv hR
   refine Cs (fun D s wx hR _ hd _ _ hs K hK=>?_) ?_
   ·have e6:=hs.v 3 6 hd;have e17:=hs.v 14 17 hd;clear hs;go_simp;exact hK s wx sv hR
   refine Cs (fun D s wx hR _ hd _ _ hs K hK=>?_) ?_
   ·have e18:=hs.v 15 18 hd;clear hs;go_simp;exact hK s wx sv hR
   refine dJ (fun D s wx hR _ hd _ _ hs K hK=>?_) ?_
   ·refine hs.jb 16 19 true hd ?_;exact hK s wx sv hR
   refine dJ (fun D s wx hR _ hd _ _ hs K hK=>?_) ?_
   ·refine hs.jb 16 19 true hd ?_;exact hK s wx sv hR
   refine dJ (fun D s wx hR _ hd _ _ hs K hK=>?_) ?_
   ·refine hs.jb 16 19 true hd ?_;exact hK s wx sv hR
   refine Cs (fun D s wx hR _ hd _ _ hs K hK=>?_) ?_
   ·have e19:=hs.v 16 19 hd;have e22:=hs.v 19 22 hd;clear hs;go_simp;exact hK s wx sv hR
   refine Cs (fun D s wx hR _ hd _ _ hs K hK=>?_) ?_
   ·have e23:=hs.v 20 23 hd;clear hs;go_simp;exact hK s wx sv hR
   exact aj.nil
  ·intro D s wx hR hD;simp only[eH,Act.put,aO,aU,aW];have M3:=hR.below;clear hR hD;go_wp2;go_ret;exact⟨aY (by rw[uT,bG.out];rfl),M3⟩
 |true=>
  cases bp with
  |false=>
  go_enter Tryz.func12,Tryz.ntmps12
  go_upto_region 1 with(fail)
  refine kG (σ:=Nat)
   (fun s i=>match i with
    |0=>.pointer (some ⟨w.heap.size,0,none⟩)
    |1=>.agg #[.int .i64 b.order.start,.slice A n c,.slice A' n' c']
    |2=>.bool true
    |3=>.bool true
    |4=>.pointer (some ⟨w.heap.size,0,none⟩)
    |5=>.agg #[.int .i64 b.order.start,.slice A n c,.slice A' n' c']
    |6=>.pointer (some ⟨w.heap.size,0,none⟩)
    |7=>.pointer (some ⟨w.heap.size,0,none⟩)
    |8=>.int .i64 b.order.start
    |9=>.pointer (some ⟨w.heap.size,3,none⟩)
    |10=>.slice A2 n2 c2
    |11=>.int .i64 (aC b.order b.order.start b.done)
    |12=>.pointer (some ⟨w.heap.size,4,none⟩)
    |13=>.int .i64 b.state
    |14=>.bool false
    |15=>.bool false
    |16=>.bool false
    |20=>.bool false
    |21=>.bool false
    |_=>undef)
   (fun D s wx=>Sn w wx fun i=>match i with
    |0=>some (ah w.heap.size 28 #[.int .i64 b.order.start,.slice A n c,.slice A' n' c',.slice A2 n2 c2,.int .i64 b.state])
    |_=>none)
   0 ?_ ?_ ?_
  ·intro D hD;refine((Sn.dN aS.out).quiet ((ai _ _).drew)).congr fun i=>?_
   match i with
   |0=>rfl
   |q+1=>rfl
  ·refine Cs (fun D s wx hR _ hd _ _ hs K hK=>?_) ?_
   ·have e1:=hs.o 1 (.pointer (some ⟨w.heap.size,0,none⟩));clear hs;go_simp;exact hK s wx sv hR
   refine Cs (fun D s wx hR _ hd _ _ hs K hK=>?_) ?_
   ·have e3:=hs.v 0 3 hd;clear hs;have qk:=(hR.blk 0 rfl).cell;go_simp;exact hK s wx sv hR
   refine Cs (fun D s wx hR _ hd _ _ hs K hK=>?_) ?_
   ·have e4:=hs.v 1 4 hd;have g4:=aX e4;clear hs;go_simp;refine(bV _ b.order _ (HO.out.up hR.below)).mono ?_;rw[bG.out];rintro e w3 ⟨rfl,hb3⟩;exact hK s w3 sv (hR.quiet hb3)
   refine Cs (fun D s wx hR _ hd _ _ hs K hK=>?_) ?_
   ·have e5:=hs.v 2 5 hd;clear hs;go_simp;exact hK s wx sv hR
   refine dJ (fun D s wx hR _ hd _ _ hs K hK=>?_) ?_
   ·refine hs.yes 3 6 true hd ?_;have e1:=hs.o 1 (.pointer (some ⟨w.heap.size,0,none⟩));clear hs;go_simp;exact hK s wx sv hR
   refine dJ (fun D s wx hR _ hd _ _ hs K hK=>?_) ?_
   ·refine hs.yes 3 6 true hd ?_;have e7:=hs.v 4 7 hd;clear hs;have qk:=(hR.blk 0 rfl).cell;go_simp;exact hK s wx sv hR
   refine dJ (fun D s wx hR _ hd _ _ hs K hK=>?_) ?_
   ·refine hs.yes 3 6 true hd ?_;have e1:=hs.o 1 (.pointer (some ⟨w.heap.size,0,none⟩));clear hs;go_simp;exact hK s wx sv hR
   refine dJ (fun D s wx hR _ hd _ _ hs K hK=>?_) ?_
   ·refine hs.yes 3 6 true hd ?_;have e9:=hs.v 6 9 hd;clear hs;go_simp;exact hK s wx sv hR
   refine dJ (fun D s wx hR _ hd _ _ hs K hK=>?_) ?_
   ·refine hs.yes 3 6 true hd ?_;have e10:=hs.v 7 10 hd;clear hs;have qk:=(hR.blk 0 rfl).cell;go_simp;exact hK s wx sv hR
   refine dJ (fun D s wx hR _ hd _ _ hs K hK=>?_) ?_
   ·refine hs.yes 3 6 true hd ?_;have e1:=hs.o 1 (.pointer (some ⟨w.heap.size,0,none⟩));clear hs;go_simp;exact hK s wx sv hR
   refine dJ (fun D s wx hR _ hd _ _ hs K hK=>?_) ?_
   ·refine hs.yes 3 6 true hd ?_;have e12:=hs.v 9 12 hd;clear hs;have qk:=(hR.blk 0 rfl).cell;go_simp;exact hK s wx sv hR
   refine dJ (fun D s wx hR _ hd _ _ hs K hK=>?_) ?_
   ·refine hs.yes 3 6 true hd ?_;have e8:=hs.v 5 8 hd;have e11:=hs.v 8 11 hd;have e13:=hs.v 10 13 hd;have g8:=aX e8;have g11:=aX e11;have g13:=aX e13;clear hs;go_simp;refine(jy _ b.order b.order.start A2 n2 c2 b.done _ (HO.out.up hR.below) (HD.out.up hR.below)).mono ?_;rintro e w3 ⟨rfl,hb3⟩;exact hK s w3 sv (hR.quiet hb3)
   refine dJ (fun D s wx hR _ hd _ _ hs K hK=>?_) ?_
   ·refine hs.yes 3 6 true hd ?_;have e1:=hs.o 1 (.pointer (some ⟨w.heap.size,0,none⟩));clear hs;go_simp;exact hK s wx sv hR
   refine dJ (fun D s wx hR _ hd _ _ hs K hK=>?_) ?_
   ·refine hs.yes 3 6 true hd ?_;have e15:=hs.v 12 15 hd;clear hs;have qk:=(hR.blk 0 rfl).cell;go_simp;exact hK s wx sv hR
   refine dJ (fun D s wx hR _ hd _ _ hs K hK=>?_) ?_
   ·refine hs.yes 3 6 true hd ?_;have e14:=hs.v 11 14 hd;have e16:=hs.v 13 16 hd;clear hs;go_simp;rw[HP.out];exact hK s wx sv hR
   refine Cs (fun D s wx hR _ hd _ _ hs K hK=>?_) ?_
   ·have e6:=hs.v 3 6 hd;have e17:=hs.v 14 17 hd;clear hs;go_simp;exact hK s wx sv hR
   refine Cs (fun D s wx hR _ hd _ _ hs K hK=>?_) ?_
   ·have e18:=hs.v 15 18 hd;clear hs;go_simp;exact hK s wx sv hR
   refine dJ (fun D s wx hR _ hd _ _ hs K hK=>?_) ?_
   ·refine hs.jb 16 19 true hd ?_;exact hK s wx sv hR
   refine dJ (fun D s wx hR _ hd _ _ hs K hK=>?_) ?_
   ·refine hs.jb 16 19 true hd ?_;exact hK s wx sv hR
   refine dJ (fun D s wx hR _ hd _ _ hs K hK=>?_) ?_
   ·refine hs.jb 16 19 true hd ?_;exact hK s wx sv hR
   refine Cs (fun D s wx hR _ hd _ _ hs K hK=>?_) ?_
   ·have e19:=hs.v 16 19 hd;have e22:=hs.v 19 22 hd;clear hs;go_simp;exact hK s wx sv hR
   refine Cs (fun D s wx hR _ hd _ _ hs K hK=>?_) ?_
   ·have e23:=hs.v 20 23 hd;clear hs;go_simp;exact hK s wx sv hR
   exact aj.nil
  ·intro D s wx hR hD;simp only[eH,Act.put,aO,aU,aW];have M3:=hR.below;clear hR hD;go_wp2;go_ret;exact⟨aY (by rw[uT,bG.out,HP.out];rfl),M3⟩
  |true=>
  go_enter Tryz.func12,Tryz.ntmps12
  go_upto_region 1 with(fail)
  refine kG (σ:=Nat)
   (fun s i=>match i with
    |0=>.pointer (some ⟨w.heap.size,0,none⟩)
    |1=>.agg #[.int .i64 b.order.start,.slice A n c,.slice A' n' c']
    |2=>.bool true
    |3=>.bool true
    |4=>.pointer (some ⟨w.heap.size,0,none⟩)
    |5=>.agg #[.int .i64 b.order.start,.slice A n c,.slice A' n' c']
    |6=>.pointer (some ⟨w.heap.size,0,none⟩)
    |7=>.pointer (some ⟨w.heap.size,0,none⟩)
    |8=>.int .i64 b.order.start
    |9=>.pointer (some ⟨w.heap.size,3,none⟩)
    |10=>.slice A2 n2 c2
    |11=>.int .i64 (aC b.order b.order.start b.done)
    |12=>.pointer (some ⟨w.heap.size,4,none⟩)
    |13=>.int .i64 b.state
    |14=>.bool true
    |15=>.bool true
    |16=>.bool true
    |17=>.pointer (some ⟨w.heap.size,4,none⟩)
    |18=>.int .i64 b.state
    |19=>.bool bn
    |20=>.bool bn
    |21=>.bool bn
    |_=>undef)
   (fun D s wx=>Sn w wx fun i=>match i with
    |0=>some (ah w.heap.size 28 #[.int .i64 b.order.start,.slice A n c,.slice A' n' c',.slice A2 n2 c2,.int .i64 b.state])
    |_=>none)
   0 ?_ ?_ ?_
  ·intro D hD;refine((Sn.dN aS.out).quiet ((ai _ _).drew)).congr fun i=>?_
   match i with
   |0=>rfl
   |q+1=>rfl
  ·refine Cs (fun D s wx hR _ hd _ _ hs K hK=>?_) ?_
   ·have e1:=hs.o 1 (.pointer (some ⟨w.heap.size,0,none⟩));clear hs;go_simp;exact hK s wx sv hR
   refine Cs (fun D s wx hR _ hd _ _ hs K hK=>?_) ?_
   ·have e3:=hs.v 0 3 hd;clear hs;have qk:=(hR.blk 0 rfl).cell;go_simp;exact hK s wx sv hR
   refine Cs (fun D s wx hR _ hd _ _ hs K hK=>?_) ?_
   ·have e4:=hs.v 1 4 hd;have g4:=aX e4;clear hs;go_simp;refine(bV _ b.order _ (HO.out.up hR.below)).mono ?_;rw[bG.out];rintro e w3 ⟨rfl,hb3⟩;exact hK s w3 sv (hR.quiet hb3)
   refine Cs (fun D s wx hR _ hd _ _ hs K hK=>?_) ?_
   ·have e5:=hs.v 2 5 hd;clear hs;go_simp;exact hK s wx sv hR
   refine dJ (fun D s wx hR _ hd _ _ hs K hK=>?_) ?_
   ·refine hs.yes 3 6 true hd ?_;have e1:=hs.o 1 (.pointer (some ⟨w.heap.size,0,none⟩));clear hs;go_simp;exact hK s wx sv hR
   refine dJ (fun D s wx hR _ hd _ _ hs K hK=>?_) ?_
   ·refine hs.yes 3 6 true hd ?_;have e7:=hs.v 4 7 hd;clear hs;have qk:=(hR.blk 0 rfl).cell;go_simp;exact hK s wx sv hR
   refine dJ (fun D s wx hR _ hd _ _ hs K hK=>?_) ?_
   ·refine hs.yes 3 6 true hd ?_;have e1:=hs.o 1 (.pointer (some ⟨w.heap.size,0,none⟩));clear hs;go_simp;exact hK s wx sv hR
   refine dJ (fun D s wx hR _ hd _ _ hs K hK=>?_) ?_
   ·refine hs.yes 3 6 true hd ?_;have e9:=hs.v 6 9 hd;clear hs;go_simp;exact hK s wx sv hR
   refine dJ (fun D s wx hR _ hd _ _ hs K hK=>?_) ?_
   ·refine hs.yes 3 6 true hd ?_;have e10:=hs.v 7 10 hd;clear hs;have qk:=(hR.blk 0 rfl).cell;go_simp;exact hK s wx sv hR
   refine dJ (fun D s wx hR _ hd _ _ hs K hK=>?_) ?_
   ·refine hs.yes 3 6 true hd ?_;have e1:=hs.o 1 (.pointer (some ⟨w.heap.size,0,none⟩));clear hs;go_simp;exact hK s wx sv hR
   refine dJ (fun D s wx hR _ hd _ _ hs K hK=>?_) ?_
   ·refine hs.yes 3 6 true hd ?_;have e12:=hs.v 9 12 hd;clear hs;have qk:=(hR.blk 0 rfl).cell;go_simp;exact hK s wx sv hR
   refine dJ (fun D s wx hR _ hd _ _ hs K hK=>?_) ?_
   ·refine hs.yes 3 6 true hd ?_;have e8:=hs.v 5 8 hd;have e11:=hs.v 8 11 hd;have e13:=hs.v 10 13 hd;have g8:=aX e8;have g11:=aX e11;have g13:=aX e13;clear hs;go_simp;refine(jy _ b.order b.order.start A2 n2 c2 b.done _ (HO.out.up hR.below) (HD.out.up hR.below)).mono ?_;rintro e w3 ⟨rfl,hb3⟩;exact hK s w3 sv (hR.quiet hb3)
   refine dJ (fun D s wx hR _ hd _ _ hs K hK=>?_) ?_
   ·refine hs.yes 3 6 true hd ?_;have e1:=hs.o 1 (.pointer (some ⟨w.heap.size,0,none⟩));clear hs;go_simp;exact hK s wx sv hR
   refine dJ (fun D s wx hR _ hd _ _ hs K hK=>?_) ?_
   ·refine hs.yes 3 6 true hd ?_;have e15:=hs.v 12 15 hd;clear hs;have qk:=(hR.blk 0 rfl).cell;go_simp;exact hK s wx sv hR
   refine dJ (fun D s wx hR _ hd _ _ hs K hK=>?_) ?_
   ·refine hs.yes 3 6 true hd ?_;have e14:=hs.v 11 14 hd;have e16:=hs.v 13 16 hd;clear hs;go_simp;rw[HP.out];exact hK s wx sv hR
   refine Cs (fun D s wx hR _ hd _ _ hs K hK=>?_) ?_
   ·have e6:=hs.v 3 6 hd;have e17:=hs.v 14 17 hd;clear hs;go_simp;exact hK s wx sv hR
   refine Cs (fun D s wx hR _ hd _ _ hs K hK=>?_) ?_
   ·have e18:=hs.v 15 18 hd;clear hs;go_simp;exact hK s wx sv hR
   refine dJ (fun D s wx hR _ hd _ _ hs K hK=>?_) ?_
   ·refine hs.yes 16 19 true hd ?_;have e1:=hs.o 1 (.pointer (some ⟨w.heap.size,0,none⟩));clear hs;go_simp;exact hK s wx sv hR
   refine dJ (fun D s wx hR _ hd _ _ hs K hK=>?_) ?_
   ·refine hs.yes 16 19 true hd ?_;have e20:=hs.v 17 20 hd;clear hs;have qk:=(hR.blk 0 rfl).cell;go_simp;exact hK s wx sv hR
   refine dJ (fun D s wx hR _ hd _ _ hs K hK=>?_) ?_
   ·refine hs.yes 16 19 true hd ?_;have e21:=hs.v 18 21 hd;clear hs;go_simp;rw[HN.out];exact hK s wx sv hR
   refine Cs (fun D s wx hR _ hd _ _ hs K hK=>?_) ?_
   ·have e19:=hs.v 16 19 hd;have e22:=hs.v 19 22 hd;clear hs;go_simp;exact hK s wx sv hR
   refine Cs (fun D s wx hR _ hd _ _ hs K hK=>?_) ?_
   ·have e23:=hs.v 20 23 hd;clear hs;go_simp;exact hK s wx sv hR
   exact aj.nil
  ·intro D s wx hR hD;simp only[eH,Act.put,aO,aU,aW];have M3:=hR.below;clear hR hD;go_wp2;go_ret;exact⟨aY (by rw[uT,bG.out,HP.out,HN.out];simp),M3⟩
theorem uw (v:Value) (b:aG) (w:World) (h:RdB w w.heap.size v b):
  Calls Tryz.prog 32 #[v] w fun e w'=>e= .returned (.bool (fA b))∧Below w.heap.size w w':=by
 have h':=h;obtain⟨G,gn,gc,A',n',c',A2,n2,c2,rfl,hg,-⟩:=h;have S0:=(St.refl w).alloc #[.int .i64 b.order.start,.slice G gn gc,.slice A' n' c',.slice A2 n2 c2,.int .i64 b.state] 28;have HB:=af (h'.up S0.below);have HG:=af hg;have aS:=af S0;clear S0 hg h';obtain⟨bo,hok⟩:∃b',aN b=b':=⟨_,rfl⟩;have bG:=af hok;clear hok;go_enter Tryz.func32,Tryz.ntmps32
 go_wp2_with fail
 refine(dF _ b _ HB.out).mono ?_;rw[bG.out];rintro e w1 ⟨rfl,hb1⟩;have S1:=aS.out.quiet hb1;have q0:=S1.cells 0 rfl;have bf:=af S1;clear S1 hb1
 cases bo with
 |false=>
  go_wp2;go_ret;exact⟨aY (by unfold fA;rw[bG.out];rfl),bf.out.below⟩
 |true=>
  go_wp2_with fail
  refine(jV G gn gc b.order.goal b.state _ (HG.out.up bf.out.below)).mono ?_;rintro e w2 ⟨rfl,hb2⟩;go_wp2;go_ret;exact⟨aY (by rw[←FI,bG.out];rfl),(bf.out.quiet hb2).below⟩
theorem uU (v:Value) (b:aG) (w:World) (h:RdB w w.heap.size v b):
  Calls Tryz.prog 62 #[v] w fun e w'=>e= .returned (.bool (fA b))∧Below w.heap.size w w':=by
 have h':=h;obtain⟨G,gn,gc,A',n',c',A2,n2,c2,rfl,hg,-⟩:=h;have S0:=(St.refl w).alloc #[.int .i64 b.order.start,.slice G gn gc,.slice A' n' c',.slice A2 n2 c2,.int .i64 b.state] 28;have HB:=af (h'.up S0.below);have HG:=af hg;have aS:=af S0;clear S0 hg h';obtain⟨bo,hok⟩:∃b',aN b=b':=⟨_,rfl⟩;have bG:=af hok;clear hok;go_enter Tryz.func62,Tryz.ntmps62
 go_wp2_with fail
 refine(dM _ b _ HB.out).mono ?_;rw[bG.out];rintro e w1 ⟨rfl,hb1⟩;have S1:=aS.out.quiet hb1;have q0:=S1.cells 0 rfl;have bf:=af S1;clear S1 hb1
 cases bo with
 |false=>
  go_wp2;go_ret;exact⟨aY (by unfold fA;rw[bG.out];rfl),bf.out.below⟩
 |true=>
  have hst:iJ b.state=true:=by have:=bG.out;unfold aN at this;simp only[Bool.and_eq_true] at this;exact this.1.2
  have G6:Hid (codeOk b.order.goal=true):=af (by have:=bG.out;unfold aN at this;simp only[Bool.and_eq_true] at this;exact(aJ _ this.1.1.1).2.1);obtain⟨hs0,hs1⟩:=(aV _).1 hst;obtain⟨m,hm⟩:=bC hs0;have HV:Hid (fA b=aH b.order.goal m):=af (by unfold fA;rw[bG.out,hm];rfl);rw[hm] at q0 hs1;clear hm hst
  go_wp2_with fail
  refine(kU G gn gc b.order.goal m _ (HG.out.up bf.out.below) G6.out (by omega)).mono ?_;rintro e w2 ⟨rfl,hb2⟩;go_wp2;go_ret;exact⟨aY HV.out.symm,(bf.out.quiet hb2).below⟩
end Go.Proofs.YtkmcengmglgdeaaGreatDoor
