/- Joined texts: Laid, SkipU, ReadP, LineA, CondP, SayP, SayQ, CondI. -/
import Derived.Test.YtkmcengmglgdeaaGreatDoorSJourP
import Derived.Test.YtkmcengmglgdeaaGreatDoorRows
import Derived.ChangeVars
import Derived.LaidLaws
import Derived.LaidHandle
import Derived.LaidSub
import Derived.Test.YtkmcengmglgdeaaGreatDoorSDoI
import Derived.Test.YtkmcengmglgdeaaGreatDoorSActR
import Derived.Test.YtkmcengmglgdeaaGreatDoorSActsH
import Derived.Test.YtkmcengmglgdeaaGreatDoorSBase
import Derived.Test.YtkmcengmglgdeaaGreatDoorSDraw
import Derived.Test.YtkmcengmglgdeaaGreatDoorSShortP
import Derived.Test.YtkmcengmglgdeaaGreatDoorSActT

namespace Go.Proofs.YtkmcengmglgdeaaGreatDoor
set_option linter.unusedVariables false
set_option linter.unusedSimpArgs false
set_option maxRecDepth 100000
set_option maxHeartbeats 8000000
open Go.ChangeShapes Go.WideShapes Go.RowKit
theorem XE:Tryz.prog.globalNamed "errors.errorType" =some 1:=by kernel_rfl
theorem XF:(Tryz.prog.cutTypes.find? (·.1 == "internal/reflectlite.rtype")).map (·.2)=some 231:=by kernel_rfl
theorem VL:((List.range Tryz.prog.types.size).filter fun t=>Tryz.prog.rowNamed t [101,114,114,111,114])=[119]:=by kernel_rfl
theorem Jk {W:World} (h:laidMetH Tryz.prog [("errors.errorType",Rows.laid_errors_errorType)] W):qV W:=by
 have h':laidMet Tryz.prog [] W∧handlesMet Tryz.prog [("errors.errorType",Rows.laid_errors_errorType)] W:=h;obtain⟨name,u,ty,e1,e2,e3,e4,e5⟩:=h'.2 _ (List.mem_singleton.2 rfl);have en:name=[101,114,114,111,114]:=(Option.some.inj e1).symm;subst en;obtain rfl:=Option.some.inj (XF.symm.trans e2);have hm:ty∈(List.range Tryz.prog.types.size).filter fun t=>Tryz.prog.rowNamed t [101,114,114,111,114]:=List.mem_filter.2 ⟨List.mem_range.2 e3,e4⟩
 rw[VL] at hm;obtain rfl:=List.mem_singleton.1 hm;have hh:typeHandle Tryz.prog 119= .pointer (some ⟨7,119,none⟩):=by kernel_rfl
 rw[hh] at e5
 simpa[qV] using World.var?_cell XE e5 0
theorem VT {l:List (String×DataW Unit)} {W:World} (h:laidMetH Tryz.prog l W) (hf:(l.filter fun x=>x.1 == "errors.errorType")=[("errors.errorType",Rows.laid_errors_errorType)]):qV W:=by
 have:=h.filter fun x=>x.1 == "errors.errorType"
 rw[hf] at this;exact Jk this
open Go.ChangeShapes Go.WideShapes Go.ChangeAt Go.RowKit


def YU (d:Bool):ByteArray:=if d=true then⟨#[111,107]⟩ else⟨#[110,111]⟩
theorem Ho (v:Value) (b:aI) (s:ByteArray) (k m:Int) (w:World) (h:RdB w w.heap.size v b) (hok:aP b=true) (hs:s.size≤9223372036854775807) (hr:readA s.data.toList=some (k,m)):
  Calls Tryz.prog 9 #[v,.string s] w (Gives w (fun v=>.tuple #[v,.string (YU (fU b ⟨k,m⟩))]) fun v=>[bF v (jl b ⟨k,m⟩)]):=by
 obtain⟨G,gn,gc,G',n',c',D',dn,dc,hv⟩:=h.form;subst hv;obtain⟨os,hos⟩:∃x,b.order.start=x:=⟨_,rfl⟩;obtain⟨st,hst⟩:∃x,b.state=x:=⟨_,rfl⟩;rw[hos,hst] at h ⊢
 have aQ:Hid (St w ((w.alloc (.cells #[.int .i64 os,.slice G gn gc,.slice G' n' c',.slice D' dn dc,.int .i64 st] 28)).alloc (.cells #[.int .i64 0,.slice none 0 0,.slice none 0 0,.slice none 0 0,.int .i64 0] 28)) [ah w.heap.size 28 #[.int .i64 os,.slice G gn gc,.slice G' n' c',.slice D' dn dc,.int .i64 st],ah (w.heap.size+1) 28 #[.int .i64 0,.slice none 0 0,.slice none 0 0,.slice none 0 0,.int .i64 0]]):=af (by
  have:=((St.refl w).alloc #[.int .i64 os,.slice G gn gc,.slice G' n' c',.slice D' dn dc,.int .i64 st] 28).alloc #[.int .i64 0,.slice none 0 0,.slice none 0 0,.slice none 0 0,.int .i64 0] 28
  simpa using this)
 have HB:=af h;have bC:=Bx.mk hok;have HR:=Bx.mk hr;have XK:Bx ((Lit.int .i64 m).wf=true):=Bx.mk (dU (by have:=zN hr;omega));obtain⟨x,hx⟩:∃x,jl b ⟨k,m⟩=x:=⟨_,rfl⟩;obtain⟨did,yU⟩:∃x,fU b ⟨k,m⟩=x:=⟨_,rfl⟩;have HX:=Bx.mk hx;have BK:=Bx.mk yU;obtain⟨ve,hxs⟩:∃y,x.order.start=y:=⟨_,rfl⟩;obtain⟨xt,hxt⟩:∃y,x.state=y:=⟨_,rfl⟩;have YR:=Bx.mk hxs;have YS:=Bx.mk hxt;rw[hx,yU];have HS:=Bx.mk hs;clear h hok hr hos hst hx yU hxs hxt hs;go_enter Tryz.func9,Tryz.ntmps9
 go_wp2_with fail
 refine(cu _ b _ (HB.out.up aQ.out.below)).mono ?_;rw[bC.out];rintro e w1 ⟨rfl,hb1⟩;have bG:=af (aQ.out.quiet hb1);clear hb1 aQ;have q0:=bG.out.cells 0 rfl
 go_wp2_with fail
 refine(qW s _ HS.out).mono ?_;rw[HR.out];rintro e w2 ⟨he,hb2⟩;have he':e= .returned (.tuple #[.agg #[.int .i64 k,.int .i64 m],.bool true]):=he;subst he';clear he;obtain⟨g6,yR⟩:∃y,w2.heap.size=y:=⟨_,rfl⟩;have HS2:Hid (St w (w2.alloc (.cells #[.int .i64 k,.int .i64 m] 64)) [ah w.heap.size 28 #[.int .i64 os,.slice G gn gc,.slice G' n' c',.slice D' dn dc,.int .i64 st],ah (w.heap.size+1) 28 #[.int .i64 0,.slice none 0 0,.slice none 0 0,.slice none 0 0,.int .i64 0],ah g6 64 #[.int .i64 k,.int .i64 m]]):=af (by rw[←yR];exact(bG.out.quiet hb2).alloc _ _);clear hb2 bG q0;have q0:=HS2.out.cells 0 rfl
 go_wp2_with fail
 try rw[yR]
 refine(zO _ b k m _ (HB.out.up HS2.out.below) XK.out).mono ?_;rw[HX.out,BK.out];rintro e w3 ⟨v3,rfl,s3⟩;obtain⟨X1,i1,j1,X2,i2,j2,X3,i3,j3,hv⟩:=s3.gW 0 rfl;rw[YR.out,YS.out] at hv;subst hv;obtain⟨g8,hg8⟩:∃y,w3.heap.size=y:=⟨_,rfl⟩;have dV:Hid (St w (w3.alloc (.cells #[.int .i64 ve,.slice X1 i1 j1,.slice X2 i2 j2,.slice X3 i3 j3,.int .i64 xt] 28)) [ah w.heap.size 28 #[.int .i64 os,.slice G gn gc,.slice G' n' c',.slice D' dn dc,.int .i64 st],ah (w.heap.size+1) 28 #[.int .i64 0,.slice none 0 0,.slice none 0 0,.slice none 0 0,.int .i64 0],ah g6 64 #[.int .i64 k,.int .i64 m],bF (.agg #[.int .i64 ve,.slice X1 i1 j1,.slice X2 i2 j2,.slice X3 i3 j3,.int .i64 xt]) x,ah g8 28 #[.int .i64 ve,.slice X1 i1 j1,.slice X2 i2 j2,.slice X3 i3 j3,.int .i64 xt]]):=af (by rw[←hg8];exact(HS2.out.call s3).alloc _ _);clear s3 HS2 q0 yR;have q1:=dV.out.cells 1 rfl;have f1:=dV.out.free 1 rfl;have iM:=af ((dV.out.fH 1 rfl (.int .i64 ve) (.slice X1 i1 j1) (.slice X2 i2 j2) (.slice X3 i3 j3) (.int .i64 xt)).pick [3,1] (by decide) rfl rfl)
 cases did with
 |true=>
  go_wp2;have q2:=iM.out.cells 1 rfl;refine bodyPost_ret (v:=.tuple #[.agg #[.int .i64 ve,.slice X1 i1 j1,.slice X2 i2 j2,.slice X3 i3 j3,.int .i64 xt],.string ⟨#[111,107]⟩]) (by simp[results,Tryz.results9,go_sem,q2]) rfl ⟨_,rfl,iM.out.pick [0] (by decide) rfl rfl⟩
 |false=>
  go_wp2;have q2:=iM.out.cells 1 rfl;refine bodyPost_ret (v:=.tuple #[.agg #[.int .i64 ve,.slice X1 i1 j1,.slice X2 i2 j2,.slice X3 i3 j3,.int .i64 xt],.string ⟨#[110,111]⟩]) (by simp[results,Tryz.results9,go_sem,q2]) rfl ⟨_,rfl,iM.out.pick [0] (by decide) rfl rfl⟩
inductive Cond where
 |one (s:Int)
 |turn (p:Cond)
 |join (s:Int) (l h:Cond)
deriving Inhabited
namespace Cond
def steps:Cond→List Int
 | .one s=>[s]
 | .turn p=>p.steps++[7]
 | .join s l h=>l.steps++h.steps++[s]
def Ok:Cond→Prop
 | .one s=>0≤s∧s≤6
 | .turn p=>p.Ok
 | .join s l h=>(s=8∨s=9)∧l.Ok∧h.Ok
def last:Cond→Int
 | .one s=>s
 | .turn _=>7
 | .join s _ _=>s
def mine:Cond→Nat
 | .join s _ _=>if s=8 then 2 else 1
 |_=>3
end Cond
def sgn (s:Int):UInt8:=if s=5 then 49 else if s=6 then 48 else UInt8.ofNat (97+s.toNat)
def Cond.text:Cond→Nat→List UInt8
 | .one s,_=>[sgn s]
 | .turn p,_=>33::p.text 3
 | .join s l h,k=>
  let m:=if s=8 then 2 else 1
  let t:=l.text m++(if s=8 then 38 else 124)::h.text (m+1)
  if m<k then 40::(t++[41]) else t
theorem Cond.EY (c:Cond) (k:Nat) (hk:k≤3):c.text k=if c.mine<k then 40::(c.text 0++[41]) else c.text 0:=by
 cases c with
 |one s=>rw[if_neg (by simp only[Cond.mine];omega)];rfl
 |turn p=>rw[if_neg (by simp only[Cond.mine];omega)];rfl
 |join s l h=>
  simp only[Cond.text,Cond.mine,Nat.not_lt_zero,if_false]
theorem Cond.zC (c:Cond):1≤c.steps.length:=by
 cases c<;>simp[Cond.steps]<;>omega
theorem Cond.nR (c:Cond):∀k,(c.text k).length≤5*c.steps.length:=by
 induction c with
 |one s=>intro k;simp[Cond.text,Cond.steps]
 |turn p ih=>intro k;have:=ih 3;simp[Cond.text,Cond.steps];omega
 |join s l h ihl ZW=>
  intro k;simp only[Cond.text,Cond.steps]
  generalize (if s=8 then 2 else 1)=m
  generalize (if s=8 then(38:UInt8) else 124)=sg
  have h1:=ihl m;have h2:=ZW (m+1)
  split<;>simp only[bM,bK,List.length_nil]<;>omega
def gq (st:List Cond) (x:Int):List Cond:=
 if x≤6 then .one x::st
 else if x=7 then
  match st with
  |p::r=>.turn p::r
  | []=>[]
 else
  match st with
  |h::l::r=>.join x l h::r
  |_=>[]
def jM (st:List Cond) (xs:List Int):List Cond:=xs.foldl gq st
def lH (xs:List Int):Cond:=(jM [] xs).headD (.one 6)
def qo (st:List Cond):List Int:=(st.reverse.map Cond.steps).flatten
theorem kK (c:Cond) (st:List Cond):qo (c::st)=qo st++c.steps:=by simp[qo]
theorem EZ {st:List Cond} {x:Int} {d':Nat} (h:gJ st.length x=some d') (hok:∀c∈st,c.Ok):
  (gq st x).length=d'∧(∀c∈gq st x,c.Ok)∧qo (gq st x)=qo st++[x]:=by
 unfold gJ at h
 by_cases h1:x<0∨9<x
 ·rw[if_pos h1] at h;cases h
 rw[if_neg h1] at h
 unfold gq
 by_cases h2:x≤6
 ·rw[if_pos h2] at h ⊢
  injection h with h
  refine⟨h,?_,?_⟩
  ·intro c hc
   rcases List.mem_cons.1 hc with rfl | hc
   ·exact⟨by omega,h2⟩
   ·exact hok c hc
  ·rw[kK];rfl
 rw[if_neg h2] at h ⊢
 by_cases h3:x=7
 ·rw[if_pos h3] at h ⊢
  subst h3
  by_cases h4:1≤st.length
  ·rw[if_pos h4] at h
   injection h with h
   match st,h4,hok with
   |p::r,h4,hok=>
    refine⟨h,?_,?_⟩
    ·intro c hc
     rcases List.mem_cons.1 hc with rfl | hc
     ·exact hok p (List.mem_cons_self ..)
     ·exact hok c (List.mem_cons_of_mem _ hc)
    ·rw[kK,kK];simp[Cond.steps]
  ·rw[if_neg h4] at h;cases h
 rw[if_neg h3] at h ⊢
 by_cases h4:2≤st.length
 ·rw[if_pos h4] at h
  injection h with h
  match st,h4,hok,h with
  |b::a::r,h4,hok,h=>
   refine⟨by simp at h ⊢;omega,?_,?_⟩
   ·intro c hc
    rcases List.mem_cons.1 hc with rfl | hc
    ·exact⟨by omega,hok a (by simp),hok b (by simp)⟩
    ·exact hok c (by simp[hc])
   ·rw[kK,kK,kK];simp[Cond.steps]
 ·rw[if_neg h4] at h;cases h
theorem I5 {xs:List Int}:∀{st:List Cond} {d:Nat},jm st.length xs=some d→(∀c∈st,c.Ok)→
  (jM st xs).length=d∧(∀c∈jM st xs,c.Ok)∧qo (jM st xs)=qo st++xs:=by
 induction xs with
 |nil=>intro st d h hok;simp only[jm] at h;injection h with h;exact⟨h,hok,by simp[jM]⟩
 |cons x xs ih=>
  intro st d h hok;simp only[jm] at h
  cases hs:gJ st.length x with
  |none=>rw[hs] at h;cases h
  |some d'=>
   rw[hs] at h;obtain⟨a,b,c⟩:=EZ hs hok;have h':jm (gq st x).length xs=some d:=by rw[a];exact h
   obtain⟨p,q,r⟩:=ih h' b;exact⟨p,q,by rw[show jM st (x::xs)=jM (gq st x) xs from rfl,r,c];simp⟩
theorem I7 (xs:List Int) (k:Nat) (x:Int) (hx:xs[k]? =some x):jM [] (xs.take (k+1))=gq (jM [] (xs.take k)) x:=by
 unfold jM
 rw[List.take_add_one,hx]
 simp
theorem uQ {xs:List Int} (h:codeOk xs=true):jM [] xs=[lH xs]∧(lH xs).Ok∧(lH xs).steps=xs:=by
 obtain⟨h1,h2,h3⟩:=(iV xs).1 h;obtain⟨a,b,c⟩:=I5 (st:=[]) h3 (by simp)
 have e:jM [] xs=[lH xs]:=by
  unfold lH
  match hh:jM [] xs,a with
  | [t],_=>rfl
 refine⟨e,b _ (by rw[e];simp),?_⟩;rw[e] at c
 simpa[qo] using c
def jF (xs:List Int):List UInt8:=if codeOk xs then(lH xs).text 0 else []
theorem nC (xs:List Int):(jF xs).length≤200:=by
 unfold jF
 split
 ·rename_i h;have h1:=(lH xs).nR 0;rw[(uQ h).2.2] at h1
  have:=((iV xs).1 h).2.1
  omega
 ·simp
def jS (x:Int):Int:=if x=7 then 1 else if x=8∨x=9 then 2 else 0
def needs:List Int→Int
 | []=>0
 |x::xs=>(jS x-1)+needs xs
theorem kL (a b:List Int):needs (a++b)=needs a+needs b:=by
 induction a with
 |nil=>simp[needs]
 |cons x a ih=>simp only[List.cons_append,needs,ih];omega
theorem Cond.Ap {c:Cond} (h:c.Ok):needs c.steps= -1:=by
 induction c with
 |one s=>have:jS s=0:=by unfold jS;rw[if_neg (by have:=h.1;have:=h.2;omega),if_neg (by have:=h.1;have:=h.2;omega)]
         simp[Cond.steps,needs,this]
 |turn p ih=>simp only[Cond.steps,kL,ih h];rfl
 |join s l r ihl ihr=>
  have:jS s=2:=by unfold jS;rw[if_neg (by have:=h.1;omega),if_pos h.1]
  simp only[Cond.steps,kL,ihl h.2.1,ihr h.2.2,needs,this];rfl
theorem Cond.Ox {c:Cond} (h:c.Ok):∀j,1≤j→0≤needs (c.steps.drop j):=by
 induction c with
 |one s=>intro j hj;rw[List.drop_eq_nil_of_le (by simpa[Cond.steps] using hj)];simp[needs]
 |turn p ih=>
  intro j hj;simp only[Cond.steps]
  rcases Nat.lt_or_ge j p.steps.length with hl | hl
  ·rw[List.drop_append_of_le_length (by omega),kL]
   have:=ih h j hj
   have e:needs [7]=0:=rfl
   omega
  ·rcases Nat.lt_or_ge j (p.steps.length+1) with h2 | h2
   ·obtain rfl:j=p.steps.length:=by omega
    rw[List.drop_left];exact Int.le_of_eq rfl
   ·rw[List.drop_eq_nil_of_le (by simpa using h2)];simp[needs]
 |join s l r ihl ihr=>
  intro j hj;have ht:jS s=2:=by unfold jS;rw[if_neg (by have:=h.1;omega),if_pos h.1]
  have e1:needs [s]=1:=by simp[needs,ht]
  have e2:=Cond.Ap h.2.2;simp only[Cond.steps];rw[List.append_assoc]
  rcases Nat.lt_or_ge j l.steps.length with hl | hl
  ·rw[List.drop_append_of_le_length (by omega),kL,kL]
   have:=ihl h.2.1 j hj
   omega
  ·rw[List.drop_append,List.drop_eq_nil_of_le hl,List.nil_append]
   generalize j-l.steps.length=i
   rcases Nat.lt_or_ge i r.steps.length with h2 | h2
   ·rw[List.drop_append_of_le_length (by omega),kL]
    rcases Nat.eq_zero_or_pos i with rfl | hi
    ·rw[List.drop_zero];omega
    ·have:=ihr h.2.2 i hi
     omega
   ·rw[List.drop_append,List.drop_eq_nil_of_le h2,List.nil_append]
    rcases Nat.eq_zero_or_pos (i-r.steps.length) with e | e
    ·rw[e,List.drop_zero];omega
    ·rw[List.drop_eq_nil_of_le (by simp only[bM,List.length_nil];omega)];simp[needs]
def qR (n k:Nat):List UInt8:=((List.range k).filter fun i=>bit n i == 1).map fun i=>UInt8.ofNat (97+i)
def fP (n:Nat):List UInt8:=if n=0 then [45] else qR n 5
def sW (s:List UInt8):Option Nat:=(List.range 32).find? fun n=>fP n == s
theorem La {n k:Nat} (h:bit n k=1):qR n (k+1)=qR n k++[UInt8.ofNat (97+k)]:=by simp[qR,List.range_succ,h]
theorem PN {n k:Nat} (h:bit n k=0):qR n (k+1)=qR n k:=by simp[qR,List.range_succ,h]
theorem Lc:∀n,n<32→sW (fP n)=some n:=by decide+kernel
theorem Rw:∀n,n<32→(32:UInt8)∉fP n:=by decide+kernel
theorem PO:∀n,n<32→n≠0→qR n 5≠[]:=by decide+kernel
theorem U9 (n k:Nat):(qR n k).length≤k:=by
 unfold qR;rw[List.length_map];exact Nat.le_trans (List.length_filter_le _ _) (by simp)
theorem iy (n:Nat):(fP n).length≤5:=by
 unfold fP;split
 ·simp
 ·exact U9 n 5
theorem qQ {s:List UInt8} {n:Nat} (h:sW s=some n):n<32∧fP n=s:=by
 have h1:=List.find?_some h;have h2:=List.mem_of_find?_eq_some h;exact⟨by simpa using h2,by simpa using h1⟩
def jR (s:List UInt8):Int:=
 if s.length<1∨10<s.length∨(1<s.length∧s.head? =some 48) then -1 else fE 0 s
def yw (xs:List Int):Bool:=kU xs == 4294967295
def gV (t:aB):Bool:=aK t&&t.ax.all fun d=>decide (d.on=0)&&decide (d.off=0)&&yw d.need
def jV (t:aB) (f:Nat):Bool:=
 gV t&&(t.ax.all fun d=>jc (d.flip.toNat &&& f)%2 == 0)&&(List.range 32).all fun s=> !aH t.goal s|| !(jc (s &&& f)%2 == jc (t.start.toNat &&& f)%2)
def kW (t:aB):Option Nat:=(List.range 32).find? (jV t)
def dQ (t:aB) (z:Int):Bool:=
 aK t&&decide (0≤z∧z<4294967296)&&fD z.toNat t.start.toNat&&
  (List.range 32).all fun s=> !fD z.toNat s||(!aH t.goal s&&t.ax.all fun d=>match aX d s with | none=>true | some q=>fD z.toNat q)
def iL (t:aB) (p:List Int):Bool:=decide (0≤aF t t.start p)&&aH t.goal (aF t t.start p).toNat
def kP:List UInt8:=[112,108,97,110]
def ji:List UInt8:=[99,108,111,115,101,100]
def sumW:List UInt8:=[115,117,109]
def mX (p:List Int):List UInt8:=kP++p.flatMap fun k=>32::iY k.toNat
def jC (t:aB):List UInt8:=
 if aK t then
  match dK t with
  |some p=>mX p
  |none=>match kW t with
   |some f=>sumW++32::fP f
   |none=>ji++32::iY (aN (lG t.ax (only t.start.toNat) 32) 32)
 else []
def bT (t:aB) (s:List UInt8):Int:=
 match eX 32 [] s with
 |w::ws=>
  if w=kP then(if iL t (ws.map jW) then 1 else -1)
  else if w=ji then(match ws with | [x]=>if dQ t (jR x) then 0 else -1 | _=>-1)
  else if w=sumW then(match ws with | [x]=>(match sW x with | some f=>if jV t f then 0 else -1 | none=>-1) | _=>-1)
  else -1
 | []=>-1
theorem vZ {t:aB} {p:List Int} (h:dK t=some p):∀x∈p,0≤x∧x<6:=by
 obtain⟨hl,h1,-⟩:=qi h;obtain⟨h2,h3,h4,-⟩:=(eF t t.start p).1 h1
 have h6:t.ax.length≤6:=by
  unfold aK at h2
  simp only[Bool.and_eq_true,decide_eq_true_eq] at h2;exact h2.1.2
 unfold aF at h1
 rw[if_pos ⟨h2,h3,h4⟩] at h1;obtain⟨s',hs'⟩:=oP.1 h1;clear h1 h
 have:∀(p:List Int) (s s':Nat),kT t s p=some s'→∀x∈p,0≤x∧x<6:=by
  intro p
  induction p with
  |nil=>intro s s' _ x hx;cases hx
  |cons k p ih=>
   intro s s' hr x hx;simp only[kT] at hr
   cases hk:lK t s k with
   |none=>rw[hk] at hr;cases hr
   |some s1=>
    rw[hk] at hr
    rcases List.mem_cons.1 hx with rfl | hx
    ·unfold lK at hk
     split at hk
     ·omega
     ·cases hk
    ·exact ih s1 s' hr x hx
 exact this p _ _ hs'
def okW:List UInt8:=[111,107]
def noW:List UInt8:=[110,111]
def zM:List UInt8:=[110,111,110,101]
def abW:List UInt8:=[121,101,115]
def Gn:List UInt8:=[119,104,97,116]
def adQ:List UInt8:=[99,97,110]
def Xx:List UInt8:=[99,97,110,110,111,116]
def Vu:List UInt8:=[110,111,116,104,105,110,103]
def nH:List UInt8:=[102,105,110,105,115,104]
def DI:List UInt8:=[115,116,97,116,101]
def KP:List UInt8:=[116,97,115,107]
def KQ:List UInt8:=[100,111,110,101]
def U4:List UInt8:=[109,97,121]
def KR:List UInt8:=[108,101,102,116]
def DJ:List UInt8:=[101,110,100,101,100]
def DK:List UInt8:=[112,114,111,111,102]
def pI:List UInt8:=[99,104,101,99,107,32]
def sS (t:aB):List UInt8:=
 fP t.start.toNat++62::(jF t.goal++t.ax.flatMap fun d=>59::(jF d.need++58::(fP d.on.toNat++44::(fP d.off.toNat++44::fP d.flip.toNat))))
def Oi:List Int→List UInt8
 | []=>zM
 |x::r=>iY x.toNat++r.flatMap fun k=>44::iY k.toNat
def pJ (z:Int):List UInt8:=if z=1 then adQ else if z=0 then Xx else Vu
def tC (b:aI) (line:List UInt8):List UInt8:=
 if line=DI then fP b.state.toNat
 else if line=KP then sS b.order
 else if line=KQ then iY b.done.length
 else if line=U4 then Oi (dG b.order b.state)
 else if line=KR then(match dF b with | none=>zM | some p=>iY p.length)
 else if line=DJ then(if iF b then abW else noW)
 else if line=DK then jC (dB b)
 else if pI.isPrefixOf line=true∧6<line.length then pJ (bT (dB b) (line.drop 6))
 else Gn
def nM (b:aI) (line:List UInt8):aI×List UInt8:=
 if aP b then
  match readA line with
  |some (k,n)=>(jl b ⟨k,n⟩,if fU b ⟨k,n⟩ then okW else noW)
  |none=>if line=nH then((gX b (iD b)).1,if(iD b).length=0 then zM else okW) else(b,tC b line)
 else(sK,[])
theorem Aq {b:aI} (h:aP b=true):gX b []=(b,0):=by
 unfold gX;rw[h];simp[oh]
theorem OI {b:aI} {aa:List iC} (h:aP b=true) (hl:aa.length≤40):aP (gX b aa).1=true∧(gX b aa).1.order=b.order:=by
 unfold gX
 rw[h,decide_eq_true hl];exact⟨(Ie aa h).1,(Ie aa h).2.1⟩
theorem Xy {b:aI} (line:List UInt8) (h:aP b=true):aP (nM b line).1=true∧(nM b line).1.order=b.order∧((nM b line).2=okW∨(nM b line).1=b):=by
 unfold nM
 rw[if_pos h]
 cases hr:readA line with
 |some a=>
  obtain⟨k,n⟩:=a;refine⟨FK _ h,xH _ h,?_⟩
  show(if fU b ⟨k,n⟩ then okW else noW)=okW∨jl b ⟨k,n⟩=b
  cases hd:aY b ⟨k,n⟩ with
  |some d=>left;rw[(jD h hd).2];rfl
  |none=>right;exact(fA h hd).1
 |none=>
  show aP (if line=nH then _ else(b,tC b line)).1=true∧_
  by_cases hf:line=nH
  ·simp only[if_pos hf];obtain⟨h1,h2⟩:=OI (aa:=iD b) h (Nat.le_trans (tH b) (by decide));refine⟨h1,h2,?_⟩
   by_cases he:(iD b).length=0
   ·right
    rw[List.length_eq_zero_iff.1 he,Aq h]
   ·left;rw[if_neg he]
  ·simp only[if_neg hf];exact⟨h,by trivial,.inr (by trivial)⟩
def kM (b:aI):List (List UInt8)→aI×List (List UInt8)
 | []=>(b,[])
 |l::ls=>((kM (nM b l).1 ls).1,(nM b l).2::(kM (nM b l).1 ls).2)
def jG (b:aI) (ls:List (List UInt8)):aI×List (List UInt8):=if aP b&&decide (ls.length≤40) then kM b ls else(sK,[])
theorem Ja (b:aI) (p q:List (List UInt8)):kM b (p++q)=((kM (kM b p).1 q).1,(kM b p).2++(kM (kM b p).1 q).2):=by
 induction p generalizing b with
 |nil=>rfl
 |cons l p ih=>simp only[List.cons_append,kM,ih]
theorem Jq {b:aI} (ls:List (List UInt8)) (h:aP b=true):aP (kM b ls).1=true∧(kM b ls).1.order=b.order∧(kM b ls).2.length=ls.length:=by
 induction ls generalizing b with
 |nil=>exact⟨h,rfl,rfl⟩
 |cons l ls ih=>
  obtain⟨h1,h2,-⟩:=Xy l h;obtain⟨k1,k2,k3⟩:=ih h1;exact⟨k1,by rw[←h2];exact k2,by simp only[kM,bM,k3]⟩
def xA (b:aI) (ls:List (List UInt8)) (k:Nat):aI×List (List UInt8):=kM b (ls.take k)
theorem BI {b:aI} {ls:List (List UInt8)} {k:Nat} {l:List UInt8} (h:ls[k]? =some l):xA b ls (k+1)=((nM (xA b ls k).1 l).1,(xA b ls k).2++[(nM (xA b ls k).1 l).2]):=by
 unfold xA
 rw[List.take_add_one,h];simp only[Option.toList_some,Ja,kM]
theorem Fz (b:aI) (ls:List (List UInt8)) {k:Nat} (h:ls.length≤k):xA b ls k=kM b ls:=by unfold xA;rw[dJ h]
def Cond.val:Cond→Value
 | .one s=>.iface 202 (.agg #[.int .i64 s])
 | .turn p=>.iface 204 (.agg #[p.val])
 | .join s l h=>.iface 208 (.agg #[.int .i64 s,l.val,h.val])
theorem Cond.kz (c:Cond):∃t d,c.val= .iface t d:=by cases c<;>exact⟨_,_,rfl⟩
theorem Ef (v:Value) (w:World):(Instr.typeAssert (.iface 202 v) 185 202 true).run Tryz.prog w= .ok (.tuple #[v,.bool true]) w:=by kernel_rfl
theorem Az (v:Value) (w:World):(Instr.typeAssert (.iface 204 v) 185 202 true).run Tryz.prog w= .ok (.tuple #[.agg #[.int .i64 0],.bool false]) w:=by kernel_rfl
theorem Jf (v:Value) (w:World):(Instr.typeAssert (.iface 204 v) 185 204 true).run Tryz.prog w= .ok (.tuple #[v,.bool true]) w:=by kernel_rfl
theorem Jh (v:Value) (w:World):(Instr.typeAssert (.iface 204 v) 185 208 true).run Tryz.prog w= .ok (.tuple #[.agg #[.int .i64 0,.nilIface,.nilIface],.bool false]) w:=by kernel_rfl
theorem AA (v:Value) (w:World):(Instr.typeAssert (.iface 208 v) 185 202 true).run Tryz.prog w= .ok (.tuple #[.agg #[.int .i64 0],.bool false]) w:=by kernel_rfl
theorem Jg (v:Value) (w:World):(Instr.typeAssert (.iface 208 v) 185 204 true).run Tryz.prog w= .ok (.tuple #[.agg #[.nilIface],.bool false]) w:=by kernel_rfl
theorem yH (v:Value) (w:World):(Instr.typeAssert (.iface 208 v) 185 208 true).run Tryz.prog w= .ok (.tuple #[v,.bool true]) w:=by kernel_rfl
theorem sF (c:Cond) (w:World):
  Calls Tryz.prog 210 #[c.val] w fun e w'=>e= .returned (.int .i64 c.last)∧Below w.heap.size w w':=by
 cases c with
 |one s=>
  simp only[Cond.val,Cond.last];have a1:=Ef;go_enter Tryz.func210,Tryz.ntmps210;go_wp2;go_ret;exact⟨rfl,(ai _ _).alloc (ay _) _⟩
 |turn p=>
  simp only[Cond.val,Cond.last];obtain⟨pt,pd,hpv⟩:=p.kz;rw[hpv];clear hpv;have a1:=Az;have a2:=Jh;go_enter Tryz.func210,Tryz.ntmps210;go_wp2;go_ret;exact⟨rfl,ai _ _⟩
 |join s l h=>
  simp only[Cond.val,Cond.last];obtain⟨lt,ld,hlv⟩:=l.kz;obtain⟨ht,hd,hhv⟩:=h.kz;rw[hlv,hhv];clear hlv hhv;have a1:=AA;have a2:=yH;go_enter Tryz.func210,Tryz.ntmps210;go_wp2;go_ret;exact⟨rfl,(ai _ _).alloc (ay _) _⟩
theorem GX {s:Int} (h0:0≤s) (h:s≤4):((sgn s).toNat:Int)=97+s:=by
 unfold sgn
 rw[if_neg (by omega),if_neg (by omega),UInt8.toNat_ofNat']
 omega
theorem Eg (s:Int) (h0:0≤s) (h6:s≤6) (w:World):
  Calls Tryz.prog 209 #[.int .i64 s] w fun e w'=>e= .returned (.string ⟨[sgn s].toArray⟩)∧Below w.heap.size w w':=by
 by_cases h5:s=5
 ·subst h5;go_enter Tryz.func209,Tryz.ntmps209;go_wp2;go_ret;exact⟨rfl,ai _ _⟩
 by_cases hs6:s=6
 ·subst hs6;go_enter Tryz.func209,Tryz.ntmps209;go_wp2;go_ret;exact⟨rfl,ai _ _⟩
 have hd:=GX h0 (by omega)
 have hcv:(convert 22 9 (.slice (some ⟨w.heap.size,0,none⟩) 1 1)).run Tryz.prog (w.alloc (.cells #[.int .u8 (97+s)] 5))= .ok (.string ⟨[sgn s].toArray⟩) (w.alloc (.cells #[.int .u8 (97+s)] 5)):=
  qP _ _ _ (by rw[hd];exact(iJ.new w 5 #[.int .u8 (97+s)]).cell 0)
 clear hd;go_enter Tryz.func209,Tryz.ntmps209;go_wp2;go_ret;exact⟨rfl,(ai _ _).alloc (ay _) _⟩
end Go.Proofs.YtkmcengmglgdeaaGreatDoor
