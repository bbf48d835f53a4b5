/- Joined texts: Eq, Mark, Mark2, App, Turn, TTask. -/
import Derived.Test.YtkmcengmglgdeaaGreatDoorSDeed
import Derived.Test.YtkmcengmglgdeaaGreatDoorSNum
import Derived.StillTailTactics
import Derived.Test.YtkmcengmglgdeaaGreatDoorSSz
import Derived.Deep.RegionLaw
import Derived.Deep.RegionHeld3
import Derived.Deep.DeepCutAuto

namespace Go.Proofs.YtkmcengmglgdeaaGreatDoor
set_option linter.unusedVariables false
set_option linter.unusedSimpArgs false
set_option maxRecDepth 100000
set_option maxHeartbeats 8000000
open Go.ChangeShapes Go.WideShapes Go.ChangeAt Go.RowKit
theorem Nb (A:Option Addr) (n c:Nat) (d:aj) (A':Option Addr) (n' c':Nat) (d':aj) (w:World) (h:iO .i64 w w.heap.size A n c d.need) (h':iO .i64 w w.heap.size A' n' c' d'.need):
  Calls Tryz.prog 181 #[.agg #[.slice A n c,.int .i64 d.on,.int .i64 d.off,.int .i64 d.flip],.agg #[.slice A' n' c',.int .i64 d'.on,.int .i64 d'.off,.int .i64 d'.flip]] w fun e w'=>e= .returned (.bool (decide (d=d')))∧Below w.heap.size w w':=by
 obtain⟨need,on,off,fl⟩:=d;obtain⟨need',on',off',fl'⟩:=d'
 simp only at h h' ⊢
 have hb0:Below w.heap.size w ((w.alloc (Obj.cells #[.slice A n c,.int .i64 on,.int .i64 off,.int .i64 fl] 144)).alloc (Obj.cells #[.slice A' n' c',.int .i64 on',.int .i64 off',.int .i64 fl'] 144)):=
  ((ai _ _).alloc (ay _) _).alloc (by simp) _
 have HD:∀b:Bool,((need=need'∧on=on'∧off=off'∧fl=fl')↔b=true)→Hid (decide ((⟨need,on,off,fl⟩:aj)=⟨need',on',off',fl'⟩)=b):=fun b hb=>af (by
  cases b
  ·exact decide_eq_false (fun e=>by injection e with e1 e2 e3 e4;exact absurd (hb.1 ⟨e1,e2,e3,e4⟩) (by simp))
  ·have:=hb.2 rfl
   exact decide_eq_true (by rw[this.1,this.2.1,this.2.2.1,this.2.2.2]))
 have HH:=af HD;have H1:=af (h.up hb0);have H2:=af (h'.up hb0);have HB0:=af hb0;clear HD hb0;go_enter Tryz.func181,Tryz.ntmps181
 go_wp2_with fail
 refine(wI A n c need A' n' c' need' _ H1.out H2.out).mono ?_
 by_cases e1:need=need'
 case neg=>
  have HV:=HH.out false ⟨fun h=>absurd h.1 e1,fun h=>by cases h⟩;rw[decide_eq_false e1];rintro e w1 ⟨rfl,q,rfl⟩;go_wp2;go_ret;exact⟨bf HV.out.symm,below_drewN HB0.out _⟩
 rw[decide_eq_true e1];rintro e w1 ⟨rfl,q,rfl⟩
 by_cases e2:on=on'
 case neg=>
  have HV:=HH.out false ⟨fun h=>absurd h.2.1 e2,fun h=>by cases h⟩;have hne:(on != on')=true:=by rw[bne_iff_ne];exact e2
  clear e1 e2;go_wp2;go_ret;exact⟨bf HV.out.symm,below_drewN HB0.out _⟩
 by_cases e3:off=off'
 case neg=>
  have HV:=HH.out false ⟨fun h=>absurd h.2.2.1 e3,fun h=>by cases h⟩;have hne:(off != off')=true:=by rw[bne_iff_ne];exact e3
  subst e2;clear e1 e3;go_wp2;go_ret;exact⟨bf HV.out.symm,below_drewN HB0.out _⟩
 by_cases e4:fl=fl'
 case neg=>
  have HV:=HH.out false ⟨fun h=>absurd h.2.2.2 e4,fun h=>by cases h⟩;have hne:(fl != fl')=true:=by rw[bne_iff_ne];exact e4
  subst e2;subst e3;clear e1 e4;go_wp2;go_ret;exact⟨bf HV.out.symm,below_drewN HB0.out _⟩
 have HV:=HH.out true ⟨fun _=>rfl,fun _=>⟨e1,e2,e3,e4⟩⟩;subst e2;subst e3;subst e4;clear e1;go_wp2;go_ret;exact⟨bf HV.out.symm,below_drewN HB0.out _⟩
theorem JR (A:Option Addr) (n c:Nat) (ds:List aj) (A':Option Addr) (n' c':Nat) (ds':List aj) (w:World) (h:MQ w w.heap.size A n c ds) (h':MQ w w.heap.size A' n' c' ds'):
  Calls Tryz.prog 145 #[.slice A n c,.slice A' n' c'] w fun e w'=>e= .returned (.bool (decide (ds=ds')))∧Below w.heap.size w w':=by
 have hl:=h.len;have hl':=h'.len;have hs:=h.small
 by_cases hn:n=n'
 ·subst hn;have HL:=af hl;clear hl;have Wh:=af hl';clear hl';go_enter Tryz.func145,Tryz.ntmps145;go_wp2
  go_loopw [5] (fun i wr=>∃k:Nat,k≤n∧i= .int .i64 k∧Hid (∀j,j<k→ds[j]? =ds'[j]?)∧Below w.heap.size w wr) (fun i _=>n-(intOf i).toNat)
  case atStart=>exact⟨0,by omega,rfl,af (by omega),ai _ _⟩
  case round=>
   obtain⟨k,hk,rfl,hpre,hbel⟩:=hrel
   by_cases hlt:k<n
   ·obtain⟨b,off,d,rfl,hb,hd,hda⟩:=h.get hlt;obtain⟨b',off',d',rfl,hb',hd',aaV⟩:=h'.get hlt;obtain⟨An,nn,cn,q0,q1,q2,q3,bW,hnn,-⟩:=(hda.keep hb (aC hbel));obtain⟨An',nn',cn',q0',q1',q2',q3',Y5,afd,-⟩:=(aaV.keep hb' (aC hbel));have HD:=af hd;have vM:=af hd';clear hd hda hd' aaV;go_wp2
    go_still_tail 8,(by kernel_rfl)
    change wpList _ _ _ _ _ wr.drew
    go_wp2_with fail
    refine(Nb An nn cn d An' nn' cn' d' wr.drew ((bW.more hbel.size).keep (fun _ _ _=>rfl)) ((Y5.more hbel.size).keep (fun _ _ _=>rfl))).mono ?_
    by_cases he:d=d'
    ·rw[decide_eq_true he];rintro e w2 ⟨rfl,hb2⟩;have hb2':Below wr.heap.size wr w2:=((ai _ _).drew).trans hb2;have qH:=hbel.trans (hb2'.mono hbel.size);have HE:=af he;clear he hb2 hb2';go_wp2
     go_roundw
     case rel=>exact⟨k+1,by omega,by go_num,af fun j hj=>by
      rcases Nat.lt_or_ge j k with h1 | h1
      ·exact hpre.out j h1
      ·obtain rfl:j=k:=by omega
       rw[HD.out,vM.out,HE.out],qH⟩
     case measure=>simp[intOf];omega
    ·rw[decide_eq_false he];rintro e w2 ⟨rfl,hb2⟩;have hb2':Below wr.heap.size wr w2:=((ai _ _).drew).trans hb2;have qH:=hbel.trans (hb2'.mono hbel.size)
     have HF:Hid (decide (ds=ds')=false):=af (decide_eq_false fun e=>by
      have h1:=HD.out;rw[e,vM.out] at h1
      injection h1 with h1
      exact he h1.symm)
     clear he hb2 hb2';go_wp2;go_ret;exact⟨bf HF.out.symm,qH⟩
   ·have HT:Hid (decide (ds=ds')=true):=af (decide_eq_true (List.ext_getElem? fun j=>by
     rcases Nat.lt_or_ge j k with h1 | h1
     ·exact hpre.out j h1
     ·rw[List.getElem?_eq_none (by rw[HL.out];omega),List.getElem?_eq_none (by rw[Wh.out];omega)]))
    go_wp2;go_ret;exact⟨bf HT.out.symm,hbel⟩
 ·have HF:Hid (decide (ds=ds')=false):=af (decide_eq_false fun e=>hn (by rw[←hl,←hl',e]));have hne:((n:Int) != (n':Int))=true:=by rw[bne_iff_ne];omega
  clear hl hl';go_enter Tryz.func145,Tryz.ntmps145;go_wp2;go_ret;exact⟨bf HF.out.symm,ai _ _⟩
theorem Nc (v:Value) (t:aB) (v':Value) (t':aB) (w:World) (h:nI w w.heap.size v t) (h':nI w w.heap.size v' t'):
  Calls Tryz.prog 78 #[v,v'] w fun e w'=>e= .returned (.bool (decide (t=t')))∧Below w.heap.size w w':=by
 obtain⟨A,n,c,B,m,b,rfl,hg,hgs,hds,hst⟩:=h;obtain⟨A',n',c',B',m',b',rfl,hg',hgs',hds',hst'⟩:=h'
 have hb0:Below w.heap.size w ((w.alloc (Obj.cells #[.int .i64 t.start,.slice A n c,.slice B m b] 26)).alloc (Obj.cells #[.int .i64 t'.start,.slice A' n' c',.slice B' m' b'] 26)):=
  ((ai _ _).alloc (ay _) _).alloc (by simp) _
 have HH:Hid (∀b:Bool,((t.start=t'.start∧t.goal=t'.goal∧t.ax=t'.ax)↔b=true)→Hid (decide (t=t')=b)):=af fun b hb=>af (by
  cases b
  ·exact decide_eq_false (fun e=>absurd (hb.1 (by rw[e];exact⟨rfl,rfl,rfl⟩)) (by simp))
  ·have:=hb.2 rfl
   exact decide_eq_true (aB.ext' this.1 this.2.1 this.2.2))
 have H1:=af (hg.up hb0);have H2:=af (hg'.up hb0);have H3:=af (hds.up hb0);have H4:=af (hds'.up hb0);have HB0:=af hb0;clear hb0
 by_cases e1:t.start=t'.start
 case neg=>
  have HV:=HH.out false ⟨fun h=>absurd h.1 e1,fun h=>by cases h⟩;have hne:(t.start != t'.start)=true:=by rw[bne_iff_ne];exact e1
  clear e1;go_enter Tryz.func78,Tryz.ntmps78;go_wp2;go_ret;exact⟨bf HV.out.symm,HB0.out⟩
 have E1:=af e1;have hne:(t.start != t'.start)=false:=by rw[e1];simp
 clear e1;go_enter Tryz.func78,Tryz.ntmps78
 go_wp2_with fail
 refine(wI A n c t.goal A' n' c' t'.goal _ H1.out H2.out).mono ?_
 by_cases e2:t.goal=t'.goal
 case neg=>
  have HV:=HH.out false ⟨fun h=>absurd h.2.1 e2,fun h=>by cases h⟩;rw[decide_eq_false e2];rintro e w1 ⟨rfl,q,rfl⟩;go_wp2;go_ret;exact⟨bf HV.out.symm,below_drewN HB0.out _⟩
 rw[decide_eq_true e2];rintro e w1 ⟨rfl,q,rfl⟩;have E2:=af e2;clear e2
 go_wp2_with fail
 refine(JR B m b t.ax B' m' b' t'.ax _ (H3.out.up (below_drewN (ai _ _) _)) (H4.out.up (below_drewN (ai _ _) _))).mono ?_
 by_cases e3:t.ax=t'.ax
 ·have HV:=HH.out true ⟨fun _=>rfl,fun _=>⟨E1.out,E2.out,e3⟩⟩;rw[decide_eq_true e3];rintro e w2 ⟨rfl,hb2⟩;go_wp2;go_ret;exact⟨bf HV.out.symm,(below_drewN HB0.out q).trans (hb2.mono (below_drewN HB0.out q).size)⟩
 ·have HV:=HH.out false ⟨fun h=>absurd h.2.2 e3,fun h=>by cases h⟩;rw[decide_eq_false e3];rintro e w2 ⟨rfl,hb2⟩;go_wp2;go_ret;exact⟨bf HV.out.symm,(below_drewN HB0.out q).trans (hb2.mono (below_drewN HB0.out q).size)⟩
def marks (k n:Nat):List Int:=(List.range n).map fun i=>((k+i:Nat):Int)
@[simp] theorem qL (k n : Nat) : (marks k n).length = n := by simp [marks]
theorem Qv (k n i:Nat) (h:i<n):(marks k n)[i]? =some ((k+i:Nat):Int):=by unfold marks;rw[List.getElem?_map,List.getElem?_range h];rfl
theorem TW (k n:Nat) (hk:k+n≤9223372036854775807):∀x∈marks k n,(Lit.int .i64 x).wf=true:=by
 intro x hx
 unfold marks at hx
 obtain⟨i,hi,rfl⟩:=List.mem_map.1 hx
 have:=List.mem_range.1 hi
 exact dU (by omega)
def vN (k:Nat) (xs:List Int) (i:Nat):List Int:=marks k i++xs.drop i
theorem TY (k:Nat) (xs:List Int) (i:Nat) (h:i≤xs.length):(vN k xs i).length=xs.length:=by simp[vN];omega
theorem Qw (k:Nat) (xs:List Int):vN k xs 0=xs:=by simp[vN,marks]
theorem Qx (k:Nat) (xs:List Int):vN k xs xs.length=marks k xs.length:=by simp[vN]
theorem Qy (k:Nat) (xs:List Int) (i:Nat) (h:i<xs.length):(vN k xs i).set i ((k+i:Nat):Int)=vN k xs (i+1):=by
 unfold vN
 rw[List.set_append_right _ _ (by simp),qL,Nat.sub_self,List.drop_eq_getElem_cons h,aS];have:marks k (i+1)=marks k i++[((k+i:Nat):Int)]:=by simp[marks,List.range_succ]
 rw[this];simp
theorem rC (lo:Nat) (v:Value) (xs:List Int) (F:List Nat) (k:Nat) (w:World) (h:jP w lo v xs F) (hk:k≤1099511627776) (hs:xs.length≤1048576):
  Calls Tryz.prog 81 #[v,.int .i64 k] w fun e w'=>e= .returned (.int .i64 (k+xs.length:Nat))∧jP w' lo v (marks k xs.length) F∧Only F w w':=by
 obtain⟨A,c,hv⟩:=dS h.row;subst hv;have hrd:=O0 h.row h.wf;have hcap:=hrd.cap;have hcm:=hrd.bZ
 unfold maxLen at hcm
 have JU:=h.foot;go_enter Tryz.func81,Tryz.ntmps81;go_wp2
 go_loopw [5,1] (fun i kk wr=>∃j:Nat,j≤xs.length∧i= .int .i64 j∧kk= .int .i64 (k+j:Nat)∧wr.ownsRow lo 3 1 (.slice A xs.length c) xs.length (ints (vN k xs j))∧Only F w wr) (fun i _ _=>xs.length-(intOf i).toNat)
 case atStart=>exact⟨0,by omega,rfl,rfl,by rw[Qw];exact h.row,Only.refl _ _⟩
 case round=>
  obtain⟨j,hj,rfl,rfl,hown,hon⟩:=hrel
  by_cases hlt:j<xs.length
  ·obtain⟨g,cap,hv,hg,_,_⟩:=kZ hown (by omega);simp only[Value.slice.injEq] at hv;obtain⟨rfl,-,rfl⟩:=hv;have hml:=TY k xs j hj;have hcl:wr.cell? ⟨g,j,none⟩=(ints (vN k xs j))[j]? :=hown.cellAt j (by omega);obtain⟨u,hu⟩:∃u,(ints (vN k xs j))[j]? =some u:=⟨(ints (vN k xs j))[j]'(by simp;omega),bD _⟩;rw[hu] at hcl;have hfr:wr.frozen? ⟨g,j,none⟩=false:=hown.frozenAt j
   have HST:Hid ((wr.setCell ⟨g,j,none⟩ (.int .i64 (k+j:Nat))).ownsRow lo 3 1 (.slice (some ⟨g,0,none⟩) xs.length c) xs.length (ints (vN k xs (j+1)))):=af (by
    have:=(hown.stored j (.int .i64 (k+j:Nat))).1
    have e:(ints (vN k xs j)).set j (.int .i64 (k+j:Nat))=ints (vN k xs (j+1)):=by
     rw[←Qy k xs j hlt];unfold ints;rw[List.map_set]
    rwa[e] at this)
   have Y7:Hid (Only F w (wr.setCell ⟨g,j,none⟩ (.int .i64 (k+j:Nat)))):=af (hon.set (by rw[JU];simp[Value.ownBlock]) _);clear hu hown hon hml;go_wp2
   go_roundw
   case rel=>exact⟨j+1,by omega,by go_num,by go_num,HST.out,Y7.out⟩
   case measure=>simp[intOf];omega
  ·have hjn:j=xs.length:=by omega
   have HJ:=af hjn;clear hjn;go_wp2;go_ret;refine⟨by rw[←HJ.out];rfl,⟨?_,TW _ _ (by omega),JU⟩,hon⟩;rw[HJ.out,Qx] at hown;rw[qL];exact hown
theorem rD (A:Option Addr) (n c k:Nat) (w:World) (h:iO .i64 w w.heap.size A n c (marks k n)) (hk:k≤1099511627776) (hs:n≤1048576):
  Calls Tryz.prog 84 #[.slice A n c,.int .i64 k] w fun e w'=>e= .returned (.int .i64 (k+n:Nat))∧w=w':=by
 have hcap:=h.cap;have hcm:=h.bZ
 unfold maxLen at hcm
 go_enter Tryz.func84,Tryz.ntmps84;go_wp2
 go_loop [5,1] (fun i kk=>∃j:Nat,j≤n∧i= .int .i64 j∧kk= .int .i64 (k+j:Nat)) (fun i _=>n-(intOf i).toNat)
 case atStart=>exact⟨0,by omega,rfl,rfl⟩
 case round=>
  obtain⟨j,hj,rfl,rfl⟩:=hrel
  by_cases hlt:j<n
  ·obtain⟨b,off,x,rfl,hb,hx,hw,hc⟩:=h.get hlt;have hxe:x=((k+j:Nat):Int):=by have:=hx.symm.trans (Qv k n j hlt);injection this
   subst hxe;clear hx;go_wp2
   go_round
   case rel=>exact⟨j+1,by omega,by go_num,by go_num⟩
   case measure=>simp[intOf];omega
  ·have hjn:j=n:=by omega
   have HJ:=af hjn;clear hjn;go_wp2;go_ret;exact⟨by rw[←HJ.out];rfl,rfl⟩
def uf (k:Nat) (d:aj):aj:=⟨marks k d.need.length,((k+d.need.length:Nat):Int),((k+d.need.length+1:Nat):Int),((k+d.need.length+2:Nat):Int)⟩
def SQ (d:aj):Nat:=d.need.length+3
def tZ (ds:List aj):Nat:=(ds.map SQ).sum
def fC (k:Nat) (ds:List aj) (i:Nat):Nat:=k+((ds.take i).map SQ).sum
def lC (k:Nat):List aj→List aj
 | []=>[]
 |d::ds=>uf k d::lC (k+SQ d) ds
theorem oQ (k:Nat) (ds:List aj):(lC k ds).length=ds.length:=by
 induction ds generalizing k with
 |nil=>rfl
 |cons d ds ih=>simp[lC,ih]
theorem Ci (k:Nat) (ds:List aj) (i:Nat) (d:aj) (hd:ds[i]? =some d):(lC k ds)[i]? =some (uf (fC k ds i) d):=by
 induction ds generalizing k i with
 |nil=>simp at hd
 |cons e ds ih=>
  cases i with
  |zero=>simp only[List.getElem?_cons_zero,Option.some.injEq] at hd;subst hd;simp[lC,fC]
  |succ i=>
   simp only[List.getElem?_cons_succ] at hd;simp only[lC,List.getElem?_cons_succ];rw[ih (k+SQ e) i hd]
   simp[fC,Nat.add_assoc]
theorem zX (k:Nat) (ds:List aj) (i:Nat) (d:aj) (hd:ds[i]? =some d):fC k ds (i+1)=fC k ds i+SQ d:=by
 obtain⟨h,he⟩:=aW.1 hd
 unfold fC
 rw[List.take_succ_eq_append_getElem h,he];simp[Nat.add_assoc]
theorem Ce (k:Nat) (ds:List aj):fC k ds ds.length=k+tZ ds:=by unfold fC tZ;rw[List.take_length]
theorem vw (k:Nat) (ds:List aj) (i:Nat):fC k ds i≤k+tZ ds:=by
 unfold fC tZ
 have:(ds.map SQ).sum=((ds.take i).map SQ).sum+((ds.drop i).map SQ).sum:=by rw[←List.sum_append,←List.map_append,List.take_append_drop]
 omega
def y9 (k:Nat) (ds:List aj) (i:Nat):List aj:=(lC k ds).take i++ds.drop i
theorem TT (k:Nat) (ds:List aj) (i:Nat) (h:i≤ds.length):(y9 k ds i).length=ds.length:=by simp[y9,oQ];omega
theorem Qr (k:Nat) (ds:List aj):y9 k ds 0=ds:=by simp[y9]
theorem Qu (k:Nat) (ds:List aj):y9 k ds ds.length=lC k ds:=by
 unfold y9;rw[dJ (by rw[oQ];exact ay _),List.drop_length,List.append_nil]
theorem Wj (k:Nat) (ds:List aj) (i:Nat) (d:aj) (hd:ds[i]? =some d):(y9 k ds i)[i]? =some d:=by
 obtain⟨h,he⟩:=aW.1 hd
 unfold y9
 rw[List.getElem?_append_right (by simp;omega)];have:((lC k ds).take i).length=i:=by rw[List.length_take,oQ];omega
 rw[this,Nat.sub_self,List.getElem?_drop,Nat.add_zero];exact hd
theorem Qs (k:Nat) (ds:List aj) (i:Nat) (d:aj) (hd:ds[i]? =some d):(y9 k ds i).set i (uf (fC k ds i) d)=y9 k ds (i+1):=by
 obtain⟨h,he⟩:=aW.1 hd;have hl:((lC k ds).take i).length=i:=by rw[List.length_take,oQ];omega
 unfold y9
 rw[List.set_append_right _ _ (by omega),hl,Nat.sub_self,List.drop_eq_getElem_cons h,aS];have hm:=Ci k ds i d hd;obtain⟨h2,h3⟩:=aW.1 hm;rw[List.take_succ_eq_append_getElem h2,h3];simp
def AQ (cells:List Value) (i:Nat) (a b c:Int):List Value:=((cells.set (i*4+1) (.int .i64 a)).set (i*4+2) (.int .i64 b)).set (i*4+3) (.int .i64 c)
theorem oU (cells:List Value) (i:Nat) (a b c:Int) (j:Nat) (h:j<i*4+1∨i*4+4≤j):(AQ cells i a b c)[j]? =cells[j]? :=by
 unfold AQ;rw[List.getElem?_set_ne (by omega),List.getElem?_set_ne (by omega),List.getElem?_set_ne (by omega)]
theorem Wl (cells:List Value) (i:Nat) (a b c:Int) (h:i*4+3<cells.length):(AQ cells i a b c)[i*4+1]? =some (.int .i64 a)∧(AQ cells i a b c)[i*4+2]? =some (.int .i64 b)∧(AQ cells i a b c)[i*4+3]? =some (.int .i64 c):=by
 unfold AQ
 refine⟨?_,?_,?_⟩
 ·rw[List.getElem?_set_ne (by omega),List.getElem?_set_ne (by omega),List.getElem?_set_self (by omega)]
 ·rw[List.getElem?_set_ne (by omega),List.getElem?_set_self (by simp;omega)]
 ·rw[List.getElem?_set_self (by simp;omega)]
theorem iH.turned {w w1:World} {lo g n c:Nat} {ds:List aj} {F:List Nat} {cells:List Value} {Fs:List (List Nat)} (h:iH w lo (.slice (some ⟨g,0,none⟩) n c) ds F cells Fs) (hn:ds.length=n) (hnd:F.Nodup)
  (i:Nat) (d:aj) (hd:ds[i]? =some d) (nv:Value) (hnv:cells[i*4]? =some nv) (Fi:List Nat) (Jm:Fs[i]? =some Fi) (e:aj) (hlen:e.need.length≤1048576)
  (ho:jP w1 lo nv e.need Fi) (hon:Only Fi w w1) (hwf:(Lit.int .i64 e.on).wf=true∧(Lit.int .i64 e.off).wf=true∧(Lit.int .i64 e.flip).wf=true):
  iH (((w1.setCell ⟨g,i*4+1,none⟩ (.int .i64 e.on)).setCell ⟨g,i*4+2,none⟩ (.int .i64 e.off)).setCell ⟨g,i*4+3,none⟩ (.int .i64 e.flip)) lo (.slice (some ⟨g,0,none⟩) n c) (ds.set i e) F (AQ cells i e.on e.off e.flip) Fs∧
  Only F w (((w1.setCell ⟨g,i*4+1,none⟩ (.int .i64 e.on)).setCell ⟨g,i*4+2,none⟩ (.int .i64 e.off)).setCell ⟨g,i*4+3,none⟩ (.int .i64 e.flip)):=by
 subst hn;have hi:i<ds.length:=(aW.1 hd).1;have JU:=h.foot;simp only[Value.ownBlock,Option.toList] at JU;rw[JU] at hnd;have hnd':=hnd;rw[List.singleton_append,List.nodup_cons] at hnd;obtain⟨hgF,aaX⟩:=hnd;have aaY:g∉Fi:=fun hx=>hgF (lV Jm hx)
 have hgw:=h.row.lt g rfl
 have hrow1:w1.ownsRow lo 144 4 (.slice (some ⟨g,0,none⟩) ds.length c) ds.length cells:=kC h.row fun b hb=>by
  simp only[Value.ownBlock,Option.some.injEq] at hb;subst hb;exact hon.block _ hgw.2 aaY
 have s1:=(hrow1.stored (i*4+1) (.int .i64 e.on)).1;have s2:=(s1.stored (i*4+2) (.int .i64 e.off)).1;have s3:=(s2.stored (i*4+3) (.int .i64 e.flip)).1
 have hother:∀b,b≠g→(((w1.setCell ⟨g,i*4+1,none⟩ (.int .i64 e.on)).setCell ⟨g,i*4+2,none⟩ (.int .i64 e.off)).setCell ⟨g,i*4+3,none⟩ (.int .i64 e.flip)).heap[b]? =w1.heap[b]? :=fun b hb=>by
  rw[Below.heap_setCell _ _ _ _ hb,Below.heap_setCell _ _ _ _ hb,Below.heap_setCell _ _ _ _ hb]
 have hcl:cells.length=ds.length*4:=h.row.1;refine⟨⟨by rw[List.length_set];exact s3,by rw[List.length_set];exact h.small,by rw[List.length_set];exact h.qF,h.foot,fun j d' Fj hd' hFj=>?_⟩,?_⟩
 ·by_cases hji:j=i
  ·subst hji;rw[List.getElem?_set_self hi] at hd'
   injection hd' with hd'
   subst hd'
   have:=hFj.symm.trans Jm
   injection this with this
   subst this;obtain⟨c1,c2,c3⟩:=Wl cells j e.on e.off e.flip (by omega);exact⟨nv,(oU _ _ _ _ _ _ (by omega)).trans hnv,c1,c2,c3,ho.keep fun b hb=>hother b (fun e=>aaY (by rw[←e];exact hb)),hlen,hwf⟩
  ·rw[List.getElem?_set_ne (by omega)] at hd';obtain⟨nv',q0,q1,q2,q3,q4,r⟩:=h.deed j d' Fj hd' hFj;refine⟨nv',(oU _ _ _ _ _ _ (by omega)).trans q0,(oU _ _ _ _ _ _ (by omega)).trans q1,(oU _ _ _ _ _ _ (by omega)).trans q2,(oU _ _ _ _ _ _ (by omega)).trans q3,q4.keep fun b hb=>?_,r⟩;have hbg:b≠g:=fun e=>hgF (by rw[←e];exact lV hFj hb)
   rw[hother b hbg];refine hon.block b (q4.lt b hb).2 fun hx=>?_
   -- b stands in two parts of a list without doubles
   have hj2:j<Fs.length:=(aW.1 hFj).1;have hi2:i<Fs.length:=(aW.1 Jm).1;have hp:=List.pairwise_iff_getElem.1 (List.pairwise_flatten.1 aaX).2
   rcases Nat.lt_or_gt_of_ne hji with h1 | h1
   ·exact hp j i hj2 hi2 h1 b (by rw[(aW.1 hFj).2];exact hb) b (by rw[(aW.1 Jm).2];exact hx) rfl
   ·exact hp i j hi2 hj2 h1 b (by rw[(aW.1 Jm).2];exact hx) b (by rw[(aW.1 hFj).2];exact hb) rfl
 ·have hsub:Only F w w1:=hon.sub fun x hx=>by rw[h.foot];exact List.mem_append_right _ (lV Jm hx)
  have hgm:g∈F:=by rw[h.foot];simp[Value.ownBlock]
  exact((hsub.set hgm _).set hgm _).set hgm _
theorem EG (lo:Nat) (v:Value) (ds:List aj) (F:List Nat) (cells:List Value) (Fs:List (List Nat)) (k:Nat) (w:World) (h:iH w lo v ds F cells Fs) (hnd:F.Nodup) (hk:k+tZ ds≤1099511627776):
  Calls Tryz.prog 146 #[v,.int .i64 k] w fun e w'=>e= .returned (.int .i64 (k+tZ ds:Nat))∧(∃cells',iH w' lo v (lC k ds) F cells' Fs)∧Only F w w':=by
 obtain⟨A,c,hv⟩:=dS h.row;subst hv;have hsm:=h.small;go_enter Tryz.func146,Tryz.ntmps146;go_wp2
 go_loopw [5,1] (fun i kk wr=>∃(j:Nat) (cells:List Value),j≤ds.length∧i= .int .i64 j∧kk= .int .i64 (fC k ds j:Nat)∧iH wr lo (.slice A ds.length c) (y9 k ds j) F cells Fs∧Only F w wr) (fun i _ _=>ds.length-(intOf i).toNat)
 case atStart=>exact⟨0,cells,by omega,rfl,by simp[fC],by rw[Qr];exact h,Only.refl _ _⟩
 case round=>
  obtain⟨j,cl,hj,rfl,rfl,hown,hon⟩:=hrel;have hml:=TT k ds j hj;have adi:=vw k ds j
  by_cases hlt:j<ds.length
  ·have hrow:=hown.row;rw[hml] at hrow;obtain⟨g,cap,hv,hg,hcc,hcm⟩:=kZ hrow (by omega);simp only[Value.slice.injEq] at hv;obtain⟨rfl,-,rfl⟩:=hv
   unfold maxLen at hcm
   obtain⟨d,hd⟩:∃d,ds[j]? =some d:=⟨ds[j],bD hlt⟩;have hmd:=Wj k ds j d hd;have ael:=hown.qF;obtain⟨Fi,Jm⟩:∃Fi,Fs[j]? =some Fi:=⟨Fs[j]'(by omega),bD _⟩;obtain⟨nv,q0,q1,q2,q3,bW,hns,-⟩:=hown.deed j d Fi hmd Jm;have hcl:cl.length=ds.length*4:=hrow.1;have c0:wr.cell? ⟨g,j*4,none⟩=some nv:=(hrow.cellAt (j*4) (by omega)).trans q0;obtain⟨An,cn,hnv⟩:=dS bW.row;have TU:fC k ds (j+1)=fC k ds j+SQ d:=zX k ds j d hd;have aaW:=vw k ds (j+1);have adk:SQ d=d.need.length+3:=rfl;have VO:Hid (fC k ds (j+1)=fC k ds j+(d.need.length+3)):=af TU;have HST:=af (Qs k ds j d hd)
   have HTU:Hid (∀(e:aj) (w1:World),e.need.length≤1048576→jP w1 lo nv e.need Fi→Only Fi wr w1→((Lit.int .i64 e.on).wf=true∧(Lit.int .i64 e.off).wf=true∧(Lit.int .i64 e.flip).wf=true)→
    iH (((w1.setCell ⟨g,j*4+1,none⟩ (.int .i64 e.on)).setCell ⟨g,j*4+2,none⟩ (.int .i64 e.off)).setCell ⟨g,j*4+3,none⟩ (.int .i64 e.flip)) lo (.slice (some ⟨g,0,none⟩) ds.length c) ((y9 k ds j).set j e) F (AQ cl j e.on e.off e.flip) Fs∧
    Only F wr (((w1.setCell ⟨g,j*4+1,none⟩ (.int .i64 e.on)).setCell ⟨g,j*4+2,none⟩ (.int .i64 e.off)).setCell ⟨g,j*4+3,none⟩ (.int .i64 e.flip))):=
    af fun e w1 h1 h2 h3 h4=>hown.turned hml hnd j d hmd nv q0 Fi Jm e h1 h2 h3 h4
   have hgF:g∉Fi:=fun hx=>by
    have:=hown.foot
    simp only[Value.ownBlock,Option.toList] at this;rw[this,List.singleton_append,List.nodup_cons] at hnd;exact hnd.1 (lV Jm hx)
   have hgw:=(hrow.lt g rfl).2;have Hz:∀i,i<ds.length*4→∃u,wr.cell? ⟨g,i,none⟩=some u:=fun i hi=>⟨cl[i]'(by omega),(hrow.cellAt i hi).trans (bD _)⟩
   have hfz:∀i,wr.frozen? ⟨g,i,none⟩=false:=hrow.frozenAt;subst hnv;have TV:=af bW;have JS:=af TU;clear hmd Jm q0 q1 q2 q3 bW TU hd hown hrow
   go_wp2_with fail
   refine(rC lo (.slice An d.need.length cn) d.need Fi (fC k ds j) _ TV.out (by omega) hns).mono ?_;rintro e w1 ⟨rfl,hoi,H6⟩;have hblk:w1.heap[g]? =wr.heap[g]? :=H6.block g hgw hgF;have hce:∀i,w1.cell? ⟨g,i,none⟩=wr.cell? ⟨g,i,none⟩:=fun i=>World.cell?_of_block (a:=⟨g,i,none⟩) hblk
   have hfe:∀i,w1.frozen? ⟨g,i,none⟩=false:=fun i=>(World.frozen?_of_block (a:=⟨g,i,none⟩) hblk).trans (hfz i)
   obtain⟨u1,x1⟩:=Hz (j*4+1) (by omega);obtain⟨u2,x2⟩:=Hz (j*4+2) (by omega);obtain⟨u3,x3⟩:=Hz (j*4+3) (by omega);have y1:=(hce _).trans x1;have y2:=(hce _).trans x2;have y3:=(hce _).trans x3;have HT2:=af (HTU.out (uf (fC k ds j) d) w1 (by simp[uf];omega) hoi H6 ⟨dU (by simp only[uf];omega),dU (by simp only[uf];omega),dU (by simp only[uf];omega)⟩);clear hce Hz hfz x1 x2 x3 hblk hoi H6 c0
   generalize hma:fC k ds j=ma at*
   have HMA:=af hma;clear hma;go_wp2
   go_roundw
   case rel=>exact⟨j+1,_,by omega,by go_num,by rw[VO.out];first | rfl | (congr 1;omega),by rw[←HST.out];exact HT2.out.1,hon.trans HT2.out.2⟩
   case measure=>simp[intOf];omega
  ·have hjn:j=ds.length:=by omega
   have HJ:=af hjn;clear hjn;have HV:Hid (fC k ds j=k+tZ ds):=af (by rw[HJ.out];exact Ce k ds);have HO:Hid (iH wr lo (.slice A ds.length c) (lC k ds) F cl Fs):=af (by have:=hown;rwa[HJ.out,Qu] at this);clear hown;go_wp2;go_ret;exact⟨aG (by have:=HV.out;show((fC k ds j:Nat):Int)=_;omega),⟨_,HO.out⟩,hon⟩
theorem EH (A:Option Addr) (n c k:Nat) (ds:List aj) (w:World) (h:MQ w w.heap.size A n c (lC k ds)) (hk:k+tZ ds≤1099511627776):
  Calls Tryz.prog 147 #[.slice A n c,.int .i64 k] w fun e w'=>e= .returned (.int .i64 (k+tZ ds:Nat))∧w=w':=by
 have hl:=h.len;rw[oQ] at hl;have hcap:=h.cap;have hcm:=h.bZ
 unfold maxLen at hcm
 have HL:=af hl;clear hl;go_enter Tryz.func147,Tryz.ntmps147;go_wp2
 go_loop [5,1] (fun i kk=>∃j:Nat,j≤n∧i= .int .i64 j∧kk= .int .i64 (fC k ds j:Nat)) (fun i _=>n-(intOf i).toNat)
 case atStart=>exact⟨0,by omega,rfl,by simp[fC]⟩
 case round=>
  obtain⟨j,hj,rfl,rfl⟩:=hrel;have adi:=vw k ds j;have aaW:=vw k ds (j+1)
  by_cases hlt:j<n
  ·obtain⟨b,off,e,rfl,hb,he,hda⟩:=h.get hlt;obtain⟨d,hd⟩:∃d,ds[j]? =some d:=⟨ds[j]'(by rw[HL.out];exact hlt),bD _⟩;have hee:e=uf (fC k ds j) d:=by have:=he.symm.trans (Ci k ds j d hd);injection this
   subst hee;obtain⟨An,nn,cn,q0,q1,q2,q3,bW,hnn,-⟩:=hda;have TU:=zX k ds j d hd;have hnl:=bW.len;simp only[uf,qL] at hnl;subst hnl;have adk:SQ d=d.need.length+3:=rfl;have VO:Hid (fC k ds (j+1)=fC k ds j+(d.need.length+3)):=af TU;simp only[uf] at q1 q2 q3;have TV:Hid (iO .i64 w w.heap.size An d.need.length cn (marks (fC k ds j) d.need.length)):=af bW;clear he hd bW
   go_wp2_with fail
   refine(rD An d.need.length cn (fC k ds j) _ TV.out (by omega) hnn).mono ?_;rintro e w1 ⟨rfl,rfl⟩
   generalize hma:fC k ds j=ma at*
   have HMA:=af hma;clear hma;go_wp2
   go_round
   case rel=>exact⟨j+1,by omega,by go_num,by rw[VO.out];first | rfl | (congr 1;omega)⟩
   case measure=>simp[intOf];omega
  ·have hjn:j=n:=by omega
   have HJ:=af hjn;clear hjn;have HV:Hid (fC k ds j=k+tZ ds):=af (by rw[HJ.out,←HL.out];exact Ce k ds);go_wp2;go_ret;exact⟨aG (by have:=HV.out;show((fC k ds j:Nat):Int)=_;omega),rfl⟩
def mkT (t:aB):Nat:=t.goal.length+tZ t.ax
def markT (k:Nat) (t:aB):aB:=⟨t.start,marks k t.goal.length,lC (k+t.goal.length) t.ax⟩
theorem H7 (lo:Nat) (v:Value) (t:aB) (F:List Nat) (k:Nat) (w:World) (h:mY w lo v t F) (hnd:F.Nodup) (hk:k+mkT t≤1099511627776):
  Calls Tryz.prog 80 #[v,.int .i64 k] w fun e w'=>e= .returned (.int .i64 (k+mkT t:Nat))∧mY w' lo v (markT k t) F∧Only F w w':=by
 obtain⟨gv,dv,Fg,Fd,cells,Fs,rfl,h1,h2,h3,rfl,h4⟩:=h;rw[List.nodup_append] at hnd;obtain⟨hn1,hn2,hn3⟩:=hnd;have hk':k+t.goal.length+tZ t.ax≤1099511627776:=by unfold mkT at hk;omega
 obtain⟨Ag,cg,hgv⟩:=dS h1.row;obtain⟨Ad,cd,hdv⟩:=dS h3.row;subst hgv;subst hdv;have hb0:Below w.heap.size w (w.alloc (Obj.cells #[.int .i64 t.start,.slice Ag t.goal.length cg,.slice Ad t.ax.length cd] 26)):=(ai _ _).alloc (ay _) _;have hk0:=iJ.new w 26 #[.int .i64 t.start,.slice Ag t.goal.length cg,.slice Ad t.ax.length cd];have hlt1:=h1.lt;have hlt3:=h3.lt;have H1:=af (h1.below hb0);have HB0:=af hb0;clear hb0;go_enter Tryz.func80,Tryz.ntmps80
 go_wp2_with fail
 refine(rC lo _ t.goal Fg k _ H1.out (by omega) h2).mono ?_;rintro e w1 ⟨rfl,ho1,H6⟩
 have hk1:iJ w1 w.heap.size 26 #[.int .i64 t.start,.slice Ag t.goal.length cg,.slice Ad t.ax.length cd]:=by
  unfold iJ;rw[H6.block _ (by simp) (fun hx=>by have:=(hlt1 _ hx).2;omega)];exact hk0
 have c2:w1.cell? ⟨w.heap.size,2,none⟩=some (.slice Ad t.ax.length cd):=hk1.cell 2;have ho3:iH w1 lo (.slice Ad t.ax.length cd) t.ax Fd cells Fs:=(h3.below HB0.out).keep fun b hb=>H6.block b (by have:=(hlt3 b hb).2;simp;omega) (fun hx=>hn3 b hx b hb rfl)
 have HO3:=af ho3;clear ho3 hk0 hk1
 go_wp2_with fail
 refine(EG lo _ t.ax Fd cells Fs (k+t.goal.length) _ HO3.out hn2 hk').mono ?_;rintro e w2 ⟨rfl,⟨cells',ho2⟩,Y6⟩;have hs1:=H6.size;simp only[World.size_alloc] at hs1
 have key:mY w2 lo (.agg #[.int .i64 t.start,.slice Ag t.goal.length cg,.slice Ad t.ax.length cd]) (markT k t) (Fg++Fd)∧Only (Fg++Fd) w w2:=by
  refine⟨⟨_,_,Fg,Fd,cells',Fs,rfl,ho1.keep fun b hb=>Y6.block b (by have:=(ho1.lt b hb).2;omega) (fun hx=>hn3 b hb b hx rfl),by simp[markT];exact h2,ho2,rfl,h4⟩,?_⟩;exact((Only.of_below HB0.out).trans (H6.sub fun x hx=>List.mem_append_left _ hx)).trans (Y6.sub fun x hx=>List.mem_append_right _ hx)
 have KEY:=af key;clear key ho1 ho2 H6 Y6;go_wp2;go_ret;exact⟨aG (by show((k+t.goal.length+tZ t.ax:Nat):Int)=_;unfold mkT;omega),KEY.out⟩
theorem H8 (v:Value) (k:Nat) (t:aB) (w:World) (h:nI w w.heap.size v (markT k t)) (hk:k+mkT t≤1099511627776):
  Calls Tryz.prog 83 #[v,.int .i64 k] w fun e w'=>e= .returned (.int .i64 (k+mkT t:Nat))∧Below w.heap.size w w':=by
 obtain⟨A,n,c,A',n',c',rfl,hg,hgs,hds,hst⟩:=h;have hk':k+t.goal.length+tZ t.ax≤1099511627776:=by unfold mkT at hk;omega
 have hnl:=hg.len;simp only[markT,qL] at hnl;subst hnl;have hb0:Below w.heap.size w (w.alloc (Obj.cells #[.int .i64 t.start,.slice A t.goal.length c,.slice A' n' c'] 26)):=(ai _ _).alloc (ay _) _;have H1:Hid (iO .i64 _ _ A t.goal.length c (marks k t.goal.length)):=af (hg.up hb0);have H2:Hid (MQ _ _ A' n' c' (lC (k+t.goal.length) t.ax)):=af (hds.up hb0);have HB0:=af hb0;clear hb0;go_enter Tryz.func83,Tryz.ntmps83
 go_wp2_with fail
 refine(rD A t.goal.length c k _ H1.out (by omega) hgs).mono ?_;rintro e w1 ⟨rfl,rfl⟩
 go_wp2_with fail
 refine(EH A' n' c' (k+t.goal.length) t.ax _ H2.out hk').mono ?_;rintro e w2 ⟨rfl,rfl⟩;go_wp2;go_ret;exact⟨aG (by show((k+t.goal.length+tZ t.ax:Nat):Int)=_;unfold mkT;omega),HB0.out⟩
section
variable {w w2 w3 : World} {lo : Nat} {v v' : Value}
theorem jP.none (w:World) (lo:Nat):jP w lo (.slice .none 0 0) [] []:=⟨World.ownsRow_nil w lo _ 1,by simp,rfl⟩
structure aaU (w:World) (lo:Nat) (v:Value) (xss:List (List Int)) (vs:List Value):Prop where
 row:w.ownsRow lo 23 1 v xss.length vs
 at_:∀(i:Nat) xs,xss[i]? =some xs→∃nv F,vs[i]? =some nv∧jP w lo nv xs F∧∀b∈F,v.ownBlock≠some b
theorem aaU.none (w:World) (lo:Nat):aaU w lo (.slice .none 0 0) [] []:=⟨World.ownsRow_nil w lo _ 1,by simp⟩
structure RdP (w:World) (B:Nat) (A:Option Addr) (n c:Nat) (xss:List (List Int)):Prop where
 len:xss.length=n
 cap:n≤c
 bZ:c≤maxLen
 at_:0<n→∃b off,A=some ⟨b,off,.none⟩∧b<B∧∀(i:Nat) xs,xss[i]? =some xs→∃Ai ci,w.cell? ⟨b,off+i,.none⟩=some (.slice Ai xs.length ci)∧iO .i64 w B Ai xs.length ci xs
structure TR (w:World) (lo T:Nat) (v:Value) (ds:List aj) (cells:List Value) (Fs:List (List Nat)):Prop where
 own:iH w lo v ds (v.ownBlock.toList++Fs.flatten) cells Fs
 nodup:(v.ownBlock.toList++Fs.flatten).Nodup
 apart:T∉v.ownBlock.toList++Fs.flatten
theorem TR.none (w:World) (lo T:Nat):TR w lo T (.slice .none 0 0) [] [] []:=
 ⟨⟨World.ownsRow_nil w lo _ 4,by simp,rfl,rfl,by simp⟩,by simp[Value.ownBlock],by simp[Value.ownBlock]⟩
section
variable {T : Nat} {ds : List aj} {cells : List Value} {Fs : List (List Nat)}
end
end
def Wi (f:Nat) (x:Int):List Int:=if x<5∧bit f x.toNat=1 then [x,7] else [x]
def XM (f:Nat) (xs:List Int):List Int:=xs.flatMap (Wi f)
def TQ (f a b:Nat):Nat:=a-(a &&& f)+(b &&& f)
def aaT (f:Nat) (d:aj):aj:=⟨XM f d.need,(TQ f d.on.toNat d.off.toNat:Nat),(TQ f d.off.toNat d.on.toNat:Nat),d.flip⟩
def XO (f:Nat) (t:aB):aB:=⟨((t.start.toNat^^^f:Nat):Int),XM f t.goal,t.ax.map (aaT f)⟩
def Y3 (t:aB) (f:Int):Bool:=aK t&&ig f&&aK (XO f.toNat t)
def Y4 (t:aB) (f:Int):aB:=if Y3 t f=true then XO f.toNat t else⟨0,[],[]⟩
theorem mY.zero (w:World) (lo:Nat):mY w lo (.agg #[.int .i64 0,.slice none 0 0,.slice none 0 0]) ⟨0,[],[]⟩ []:=
 ⟨_,_,[],[],[],[],rfl,jP.none w lo,by simp,⟨World.ownsRow_nil w lo _ 4,by simp,rfl,by simp[Value.ownBlock],by simp⟩,rfl,rfl⟩
end Go.Proofs.YtkmcengmglgdeaaGreatDoor
