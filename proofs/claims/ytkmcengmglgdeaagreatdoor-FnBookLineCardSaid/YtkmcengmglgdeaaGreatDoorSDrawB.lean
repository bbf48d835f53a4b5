/- Joined texts: DrawB, EndP, TextP, StrL, Itoa, Builder, ReadNum. -/
import Derived.Test.YtkmcengmglgdeaaGreatDoorSL20Book
import Derived.Test.YtkmcengmglgdeaaGreatDoorSTDraw2
import Derived.Test.YtkmcengmglgdeaaGreatDoorSRunB
import Derived.Test.YtkmcengmglgdeaaGreatDoorSDoI
import Derived.Test.YtkmcengmglgdeaaGreatDoorSBase
import Derived.Lib.Strings
import Derived.Lib.Slices
import Derived.Lib.Walk
import Derived.Lib.Bytealg
import Derived.Lib.CutLaws
import Derived.Lib.ItoaNum
import Derived.Lib.ItoaWalk
import Derived.Lib.Hide
import Derived.BigCall
import Derived.Lib.Builder
import Derived.Lib.OthersKept
import Derived.Lib.AppendStr
import Derived.Lib.UnsafeStr
import Derived.Lib.MakeNoZero
import Derived.Laws.Externs
import Derived.Laws.IdiomCopy

namespace Go.Proofs.YtkmcengmglgdeaaGreatDoor
set_option linter.unusedVariables false
set_option linter.unusedSimpArgs false
set_option maxRecDepth 100000
set_option maxHeartbeats 8000000
open Go.ChangeShapes Go.WideShapes Go.ChangeAt Go.RowKit
def adb (w:World) (e:Ending) (w':World):Prop:=∃v b,e= .returned v∧St w w' [aI v b]
theorem Nu {b:aG} {r:List Int} (hb:aN b=true) (hr:dB b=some r) (hl:b.done.length+r.length≤40) (hg:aH b.order.goal b.state.toNat=false):eY b ⟨3,0⟩=true∧fA (dY b ⟨3,0⟩)=true:=by
 obtain⟨h1,h2,h3,h4⟩:=bF hb;obtain⟨-,r1,r2,r3⟩:=qI hr
 have hr0:0<r.length:=by
  rcases Nat.eq_zero_or_pos r.length with h0 | h0
  ·obtain rfl:=List.eq_nil_of_length_eq_zero h0
   have e:aC b.order b.state []=b.state:=by
    unfold aC
    rw[if_pos ⟨h1,(aV _).2 h3,by simp⟩];simp only[jY,opt];omega
   rw[e,hg] at r3;cases r3
  ·exact h0
 have hd:aZ b ⟨3,0⟩=some (b.done++r):=by rw[Gx,hr,Option.getD_some,if_pos ⟨rfl,hr0,hl⟩]
 obtain⟨e1,e2⟩:=iZ hb hd;refine⟨e2,?_⟩;rw[e1]
 unfold fA
 rw[Bc hb hd,Bool.true_and]
 show aH b.order.goal (aC b.order b.order.start (b.done++r)).toNat=true
 rw[uK (by omega) hl,h4];exact r3
theorem Wh {b:aG} (hb:aN b=true) (hl:0<b.done.length):eY b ⟨1,b.done.length⟩=true∧dY b ⟨1,b.done.length⟩=⟨b.order,[],b.order.start⟩:=by
 obtain⟨h1,h2,h3,h4⟩:=bF hb;have hd:aZ b ⟨1,b.done.length⟩=some []:=by rw[Gw,if_pos ⟨by omega,Int.le_refl _⟩,bW,Nat.sub_self,List.take_zero]
 obtain⟨e1,e2⟩:=iZ hb hd;refine⟨e2,?_⟩;rw[e1];have hs:=(aJ _ h1).1
 have e:aC b.order b.order.start []=b.order.start:=by
  unfold aC
  rw[if_pos ⟨h1,(aV _).2 hs,by simp⟩];simp only[jY,opt];omega
 unfold eX
 rw[e]
theorem Ns {b:aG} (hb:aN b=true) (hc:(dG b.order).isSome=true):(gY b (gZ b)).2=(gZ b).length∧fA (gY b (gZ b)).1=true:=by
 have hlen:=qK b;rw[vM hb (by omega)];obtain⟨h1,h2,h3,h4⟩:=bF hb;obtain⟨p,hp⟩:=Option.isSome_iff_exists.1 hc;have X9:=(oL hp).1;have ended:∀b:aG,aN b=true→aH b.order.goal b.state.toNat=true→fA b=true:=fun b h h'=>by unfold fA;rw[h,h'];rfl
 cases hbk:lu b with
 |true=>
  have hl:0<b.done.length:=by
   unfold lu at hbk
   simp only[Bool.and_eq_true,decide_eq_true_eq] at hbk;exact hbk.1
  obtain⟨d1,d2⟩:=Wh hb hl;have hb1:aN ⟨b.order,[],b.order.start⟩=true:=by rw[←d2];exact qX _ hb
  have hr1:dB ⟨b.order,[],b.order.start⟩=some p:=by rw[oM _ hb1];exact hp
  cases hg:aH b.order.goal b.order.start.toNat with
  |true=>
   rw[ig hb hc hbk (ev:=true) (by rw[if_pos rfl];exact hg)];simp only[if_true,List.append_nil,nU,bM,List.length_nil,d1,d2];exact⟨by trivial,ended _ hb1 hg⟩
  |false=>
   rw[ig hb hc hbk (ev:=false) (by rw[if_pos rfl];exact hg)];obtain⟨f1,f2⟩:=Nu hb1 hr1 (by simp only[List.length_nil];omega) hg;simp only[if_true,List.singleton_append,Bool.false_eq_true,if_false,nU,bM,List.length_nil,d1,d2,f1];exact⟨by trivial,f2⟩
 |false=>
  cases hg:aH b.order.goal b.state.toNat with
  |true=>
   rw[ig hb hc hbk (ev:=true) (by simpa using hg)];exact⟨rfl,ended b hb hg⟩
  |false=>
   rw[ig hb hc hbk (ev:=false) (by simpa using hg)]
   have hrl:∃r,dB b=some r∧b.done.length+r.length≤40:=by
    rcases Nat.eq_zero_or_pos b.done.length with h0 | h0
    ·have hd:b.done=[]:=List.eq_nil_of_length_eq_zero h0
     have wH:b.state=b.order.start:=by
      rw[←h4,hd]
      unfold aC
      rw[if_pos ⟨h1,(aV _).2 (aJ _ h1).1,by simp⟩]
      have:=(aJ _ h1).1
      simp only[jY,opt];omega
     have e:dD b=b.order:=by unfold dD;rw[wH]
     exact⟨p,by rw[oM b hb,e];exact hp,by omega⟩
    ·unfold lu at hbk
     rw[decide_eq_true h0,Bool.true_and,Bool.or_eq_false_iff] at hbk
     cases hr:dB b with
     |none=>rw[hr] at hbk;cases hbk.1
     |some r=>
      rw[hr] at hbk;exact⟨r,rfl,by have:=of_decide_eq_false hbk.2;simp only[Option.getD_some] at this;omega⟩
   obtain⟨r,hr,hl⟩:=hrl;obtain⟨f1,f2⟩:=Nu hb hr hl hg;simp only[Bool.false_eq_true,if_false,List.nil_append,nU,bM,List.length_nil,f1,if_true];exact⟨by trivial,f2⟩
def oO (n:Nat):UInt8:=UInt8.ofNat (48+n)
def iI (n:Nat):List UInt8:=if n<10 then [oO n] else [oO (n/10),oO (n%10)]
def KE:List UInt8:=[100,111]
def o5:List UInt8:=[98,97,99,107]
def qP:List UInt8:=[115,104,111,114,116]
def endW:List UInt8:=[101,110,100]
def lS (k n:Int):List UInt8:=
 if k=0∧0≤n∧n≤99 then KE++32::iI n.toNat
 else if k=1∧0≤n∧n≤99 then o5++32::iI n.toNat
 else if k=2∧n=0 then qP
 else if k=3∧n=0 then endW
 else []
def Et (c:UInt8):Bool:=48≤c.toNat&&c.toNat≤57
def rH (t:List UInt8):Option Nat:=
 match t with
 | [c]=>if Et c then some (c.toNat-48) else none
 | [c,d]=>if c≠48∧Et c=true∧Et d=true then some (10*(c.toNat-48)+(d.toNat-48)) else none
 |_=>none
def readA (s:List UInt8):Option (Int×Int):=
 if s=qP then some (2,0)
 else if s=endW then some (3,0)
 else if(KE++[32]).isPrefixOf s=true then(rH (s.drop 3)).map fun(n:Nat)=>((0:Int),(n:Int))
 else if(o5++[32]).isPrefixOf s=true then(rH (s.drop 5)).map fun(n:Nat)=>((1:Int),(n:Int))
 else none
theorem Hu {c:UInt8}:Et c=true↔48≤c.toNat∧c.toNat≤57:=by simp[Et]
theorem Eu {t:List UInt8} {n:Nat} (h:rH t=some n):n<100∧iI n=t:=by
 match t,h with
 | [c],h=>
  simp only[rH] at h
  split at h
  ·rename_i hd;rw[Hu] at hd
   injection h with h
   refine⟨by omega,?_⟩
   unfold iI
   rw[if_pos (by omega)]
   unfold oO
   rw[show 48+n=c.toNat by omega,UInt8.ofNat_toNat]
  ·cases h
 | [c,d],h=>
  simp only[rH] at h
  split at h
  ·rename_i hd;obtain⟨h0,h1,h2⟩:=hd;rw[Hu] at h1 h2
   injection h with h
   have h3:c.toNat≠48:=fun e=>h0 (UInt8.toNat_inj.1 (by rw[e];rfl))
   refine⟨by omega,?_⟩
   unfold iI
   rw[if_neg (by omega)]
   unfold oO
   rw[show 48+n/10=c.toNat by omega,show 48+n%10=d.toNat by omega,UInt8.ofNat_toNat,UInt8.ofNat_toNat]
  ·cases h
 | [],h=>cases h
 |_::_::_::_,h=>cases h
theorem jJ (n:Nat):1≤(iI n).length∧(iI n).length≤2:=by unfold iI;split<;>simp
inductive xQ:Int→Int→List UInt8→Prop
 |WE (n:Nat):n<100→xQ 0 n (KE++32::iI n)
 |back (n:Nat):n<100→xQ 1 n (o5++32::iI n)
 |short:xQ 2 0 qP
 |end_:xQ 3 0 endW
theorem KD {k n:Int} (h:lS k n≠[]):xQ k n (lS k n):=by
 unfold lS at h ⊢
 by_cases h1:k=0∧0≤n∧n≤99
 ·rw[if_pos h1];obtain⟨rfl,a,b⟩:=h1;obtain⟨m,rfl⟩:=bC a;exact .WE m (by omega)
 ·rw[if_neg h1] at h ⊢
  by_cases h2:k=1∧0≤n∧n≤99
  ·rw[if_pos h2];obtain⟨rfl,a,b⟩:=h2;obtain⟨m,rfl⟩:=bC a;exact .back m (by omega)
  ·rw[if_neg h2] at h ⊢
   by_cases h3:k=2∧n=0
   ·rw[if_pos h3];obtain⟨rfl,rfl⟩:=h3;exact .short
   ·rw[if_neg h3] at h ⊢
    by_cases h4:k=3∧n=0
    ·rw[if_pos h4];obtain⟨rfl,rfl⟩:=h4;exact .end_
    ·rw[if_neg h4] at h;exact absurd rfl h
theorem xQ.eq {k n:Int} {s:List UInt8} (h:xQ k n s):lS k n=s:=by
 cases h with
 |WE m hm=>unfold lS;rw[if_pos ⟨rfl,by omega,by omega⟩];rfl
 |back m hm=>unfold lS;rw[if_neg (by simp),if_pos ⟨rfl,by omega,by omega⟩];rfl
 |short=>rfl
 |end_=>rfl
theorem VF:∀n,n<100→readA (KE++32::iI n)=some (0,(n:Int)):=by decide+kernel
theorem O0:∀n,n<100→readA (o5++32::iI n)=some (1,(n:Int)):=by decide+kernel
theorem xQ.read {k n:Int} {s:List UInt8} (h:xQ k n s):readA s=some (k,n):=by
 cases h with
 |WE m hm=>exact VF m hm
 |back m hm=>exact O0 m hm
 |short=>rfl
 |end_=>rfl
theorem xQ.ne {k n:Int} {s:List UInt8} (h:xQ k n s):s≠[]:=by
 cases h<;>simp[KE,o5,qP,endW]
theorem O1 {k n:Int} (h:lS k n≠[]):readA (lS k n)=some (k,n):=(KD h).read
theorem yS {p s:List UInt8} (h:p.isPrefixOf s=true):s=p++s.drop p.length:=by
 obtain⟨t,rfl⟩:=List.isPrefixOf_iff_prefix.1 h
 simp
theorem Hw {s:List UInt8} {k n:Int} (h:readA s=some (k,n)):xQ k n s:=by
 unfold readA at h
 by_cases h1:s=qP
 ·rw[if_pos h1] at h;subst h1;simp only[Option.some.injEq,Prod.mk.injEq] at h;obtain⟨rfl,rfl⟩:=h;exact .short
 ·rw[if_neg h1] at h
  by_cases h2:s=endW
  ·rw[if_pos h2] at h;subst h2;simp only[Option.some.injEq,Prod.mk.injEq] at h;obtain⟨rfl,rfl⟩:=h;exact .end_
  ·rw[if_neg h2] at h
   by_cases h3:(KE++[32]).isPrefixOf s=true
   ·rw[if_pos h3] at h;obtain⟨m,hm,e⟩:=Option.map_eq_some_iff.1 h;simp only[Prod.mk.injEq] at e;obtain⟨rfl,rfl⟩:=e;obtain⟨a,b⟩:=Eu hm
    have:=yS h3
    have e:s=KE++32::iI m:=by rw[b];simpa[KE] using this
    rw[e];exact .WE m a
   ·rw[if_neg h3] at h
    by_cases h4:(o5++[32]).isPrefixOf s=true
    ·rw[if_pos h4] at h;obtain⟨m,hm,e⟩:=Option.map_eq_some_iff.1 h;simp only[Prod.mk.injEq] at e;obtain⟨rfl,rfl⟩:=e;obtain⟨a,b⟩:=Eu hm
     have:=yS h4
     have e:s=o5++32::iI m:=by rw[b];simpa[o5] using this
     rw[e];exact .back m a
    ·rw[if_neg h4] at h;cases h
theorem BA {s:List UInt8} {k n:Int} (h:readA s=some (k,n)):0≤k∧k≤3∧0≤n∧n≤99:=by
 cases Hw h<;>omega
def fQ (sep:UInt8) (cur:List UInt8):List UInt8→List (List UInt8)
 | []=>[cur]
 |c::cs=>if c=sep then cur::fQ sep [] cs else fQ sep (cur++[c]) cs
theorem nX {sep:UInt8} {s:List UInt8} (h:sep∉s) (cur:List UInt8):fQ sep cur s=[cur++s]:=by
 induction s generalizing cur with
 |nil=>simp[fQ]
 |cons c cs ih=>
  simp only[List.mem_cons,not_or] at h;simp only[fQ];rw[if_neg (fun e=>h.1 e.symm),ih h.2]
  simp
theorem oP {sep:UInt8} {s:List UInt8} (h:sep∉s) (cur t:List UInt8):fQ sep cur (s++sep::t)=(cur++s)::fQ sep [] t:=by
 induction s generalizing cur with
 |nil=>simp[fQ]
 |cons c cs ih=>
  simp only[List.mem_cons,not_or] at h;simp only[List.cons_append,fQ];rw[if_neg (fun e=>h.1 e.symm),ih h.2]
  simp
def gu (acc:Int):List UInt8→Int
 | []=>acc
 |c::cs=>if c.toNat<48∨57<c.toNat then -1 else gu (10*acc+((c.toNat:Int)-48)) cs
def kH (s:List UInt8):Int:=
 if s.length<1∨4<s.length∨1<s.length∧s.head? =some 48 then -1 else gu 0 s
theorem Hy:∀n,n<100→kH (iI n)=n:=by decide+kernel
theorem SG {s:List UInt8} {acc:Int} (h:0≤acc): -1≤gu acc s∧gu acc s<(acc+1)*10^s.length:=by
 induction s generalizing acc with
 |nil=>simp[gu];omega
 |cons c cs ih=>
  simp only[gu];have hp:(0:Int)<10^(cs.length+1):=Int.pow_pos (by omega)
  split
  ·refine⟨by omega,?_⟩;have:(0:Int)<(acc+1)*10^(c::cs).length:=Int.mul_pos (by omega) hp
   omega
  ·rename_i hd
   have:=ih (acc:=10*acc+((c.toNat:Int)-48)) (by omega)
   refine⟨this.1,Int.lt_of_lt_of_le this.2 ?_⟩;have hq:(0:Int)≤10^cs.length:=Int.le_of_lt (Int.pow_pos (by omega))
   calc (10*acc+((c.toNat:Int)-48)+1)*10^cs.length≤((acc+1)*10)*10^cs.length:=Int.mul_le_mul_of_nonneg_right (by omega) hq
    _=(acc+1)*10^(c::cs).length:=by rw[bM,Int.pow_succ,Int.mul_assoc,Int.mul_comm 10]
theorem XG (s:List UInt8): -1≤kH s∧kH s<10000:=by
 unfold kH
 split
 ·omega
 ·rename_i h
  have:=SG (s:=s) (acc:=0) (by omega)
  refine⟨this.1,Int.lt_of_lt_of_le this.2 ?_⟩;rw[Int.zero_add,Int.one_mul];have h4:s.length=1∨s.length=2∨s.length=3∨s.length=4:=by omega
  rcases h4 with e | e | e | e<;>rw[e]<;>decide
def lC (s:List UInt8):List (Int×Int):=
 (2,0)::(3,0)::(match fQ 32 [] s with | [_,w]=>[(0,kH w),(1,kH w)] | _=>[])
theorem SI {s:List UInt8} {k n:Int} (h:xQ k n s):(k,n)∈lC s:=by
 cases h with
 |WE m hm=>
  unfold lC
  rw[oP (by decide),nX (by have:∀m,m<100→(32:UInt8)∉iI m:=by decide+kernel
                           exact this m hm)]
  simp[Hy m hm]
 |back m hm=>
  unfold lC
  rw[oP (by decide),nX (by have:∀m,m<100→(32:UInt8)∉iI m:=by decide+kernel
                           exact this m hm)]
  simp[Hy m hm]
 |short=>unfold lC;simp
 |end_=>unfold lC;simp
def tY (s:List UInt8):List (Int×Int)→Option (Int×Int)
 | []=>none
 |a::l=>if s≠[]∧lS a.1 a.2=s then some a else tY s l
theorem O3 {s:List UInt8} {l:List (Int×Int)} {a:Int×Int} (h:tY s l=some a):readA s=some a:=by
 induction l with
 |nil=>cases h
 |cons b l ih=>
  simp only[tY] at h
  split at h
  ·rename_i hb
   injection h with h
   subst h
   have:=O1 (k:=b.1) (n:=b.2) (by rw[hb.2];exact hb.1)
   rw[hb.2] at this;exact this
  ·exact ih h
theorem O4 {s:List UInt8} {l:List (Int×Int)} (h:tY s l=none) {a:Int×Int} (ha:a∈l) (hs:s≠[]):lS a.1 a.2≠s:=by
 induction l with
 |nil=>simp at ha
 |cons b l ih=>
  simp only[tY] at h
  split at h
  ·cases h
  ·rename_i hb
   rcases List.mem_cons.1 ha with rfl | ha
   ·exact fun e=>hb ⟨hs,e⟩
   ·exact ih h ha
theorem O5 (s:List UInt8):tY s (lC s)=readA s:=by
 cases h:tY s (lC s) with
 |some a=>exact(O3 h).symm
 |none=>
  cases h2:readA s with
  |none=>rfl
  |some a=>
   obtain⟨k,n⟩:=a
   have:=Hw h2
   exact absurd this.eq (O4 h (SI this) this.ne)
def aeQ (aa:List (Int×Int)):List UInt8:=
 if aa.all (fun a=>lS a.1 a.2 != [])=true then aa.flatMap fun a=>lS a.1 a.2++[10] else []
def MF (cur:List UInt8):List UInt8→List (Int×Int)×Nat
 | []=>([],0)
 |c::cs=>
  if c=10 then
   match readA cur with
   |none=>([],0)
   |some a=>(a::(MF [] cs).1,cur.length+1+(MF [] cs).2)
  else MF (cur++[c]) cs
def jm (n:Nat):List UInt8:=if n<10 then [oO n] else jm (n/10)++[oO (n%10)]
termination_by n
theorem lX {n:Nat} (h:n<10):jm n=[oO n]:=by rw[jm,if_pos h]
theorem qo {n:Nat} (h:¬n<10):jm n=jm (n/10)++[oO (n%10)]:=by rw[jm,if_neg h]
theorem yT {n:Nat} (h:n<100):jm n=iI n:=by
 unfold iI
 by_cases h1:n<10
 ·rw[lX h1,if_pos h1]
 ·rw[qo h1,if_neg h1,lX (show n/10<10 by omega)];rfl
theorem Jt (n:Nat):jm n≠[]:=by
 by_cases h:n<10
 ·rw[lX h];simp
 ·rw[qo h];simp
theorem rG (k:Nat):∀n,n<10^(k+1)→(jm n).length≤k+1:=by
 induction k with
 |zero=>intro n h;rw[lX (by simpa using h)];simp
 |succ k ih=>
  intro n h
  by_cases h1:n<10
  ·rw[lX h1];simp
  ·rw[qo h1]
   have:=ih (n/10) (by rw[Nat.pow_succ] at h;omega)
   simp;omega
theorem acL {x:ByteArray} {l:List UInt8} (h:x.data.toList=l):x=⟨l.toArray⟩:=by subst h;cases x;simp
theorem CU (l:List UInt8):(⟨l.toArray⟩:ByteArray).data.toList=l:=rfl
theorem wX (s p:ByteArray) (w:World):
  Calls Tryz.prog 108 #[.string s,.string p] w fun e w'=>e= .returned (.tuple #[.string ⟨(Lib.trimPrefix s.data.toList p.data.toList).toArray⟩,.bool (Lib.hasPrefix s.data.toList p.data.toList)])∧w=w':=by
 go_enter Tryz.func108,Tryz.ntmps108;go_wp2
 ·have h2:(!((s.extract 0 p.size).toList == p.toList))=true:=by assumption
  have h3:(decide (p.size≤s.size)&&((s.extract 0 p.size).toList == p.toList))=false:=by
   have:((s.extract 0 p.size).toList == p.toList)=false:=by simpa using h2
   rw[this]
   simp
  go_ret2;refine⟨?_,rfl⟩;rw[Lib.trimPrefix_miss s p h3,←Lib.hasPrefix_raw,h3]
  rfl
 ·have h1:p.size≤s.size:=by assumption
  have h2:(!((s.extract 0 p.size).toList == p.toList))=false:=by assumption
  have h2':((s.extract 0 p.size).toList == p.toList)=true:=by simpa using h2
  go_ret2;refine⟨?_,rfl⟩;rw[Lib.trimPrefix_hit s p h1 h2',←Lib.hasPrefix_raw,h2',decide_eq_true h1]
  rfl
 ·have h1:¬p.size≤s.size:=by assumption
  have h3:(decide (p.size≤s.size)&&((s.extract 0 p.size).toList == p.toList))=false:=by simp[h1]
  go_ret2;refine⟨?_,rfl⟩;rw[Lib.trimPrefix_miss s p h3,←Lib.hasPrefix_raw,h3]
  rfl
theorem xR (s:ByteArray) (c:Int) (w:World):
  Calls Tryz.prog 201 #[.string s,.int .u8 c] w fun e w'=>e= .returned (.int .i64 (Lib.indexByte s.data.toList c.toNat.toUInt8))∧w=w':=by
 go_enter Tryz.func201,Tryz.ntmps201;go_wp2;rw[run_callFunc_extern Tryz.func217 (by kernel_rfl) (by kernel_rfl) (by kernel_rfl) (e:=Extern.BytealgIndexByte.indexByte) (by kernel_rfl),Lib.run_indexByteString];simp only[Result.andThen];rw[Oper.upon_value];go_wp2;go_ret;exact⟨rfl,rfl⟩
theorem vw (s:ByteArray) (c:UInt8) (w:World):
  Calls Tryz.prog 182 #[.string s,.string ⟨#[c]⟩] w fun e w'=>e= .returned (.int .i64 (Lib.indexByte s.data.toList c))∧w=w':=by
 go_enter Tryz.func182,Tryz.ntmps182
 go_wp2_with (go_at_call 201;refine(xR _ _ _).mono ?_;rintro e w' ⟨rfl,rfl⟩)
 ·have h:([c] == s.toList)=true:=by assumption
  go_ret;refine⟨?_,rfl⟩;have e:s.data.toList=[c]:=by rw[←Lib.toList_data];exact(beq_iff_eq.1 h).symm
  rw[e];exact aP (by simp[Lib.indexByte])
 ·go_ret;exact⟨rfl,rfl⟩
theorem indexByte_none {l:List UInt8} {c:UInt8} (h:c∉l):Lib.indexByte l c= -1:=by
 induction l with
 |nil=>rfl
 |cons a r ih=>
  simp only[List.mem_cons,not_or] at h;have h1:(a == c)=false:=by rw[dH];intro e;exact h.1 (by simpa using(beq_iff_eq.1 e).symm)
  unfold Lib.indexByte
  rw[h1,ih h.2];rfl
theorem yV {l r:List UInt8} {c:UInt8} (h:c∉l):Lib.indexByte (l++c::r) c=l.length:=by
 induction l with
 |nil=>simp[Lib.indexByte]
 |cons a t ih=>
  simp only[List.mem_cons,not_or] at h;have h1:(a == c)=false:=by rw[dH];intro e;exact h.1 (by simpa using(beq_iff_eq.1 e).symm)
  rw[List.cons_append]
  unfold Lib.indexByte
  rw[h1,ih h.2];have h2:(((t.length:Nat):Int) == -1)=false:=by rw[dH];intro e;have:=beq_iff_eq.1 e;omega
  simp[h2]
theorem FZ (s:ByteArray) (c:UInt8) (w:World) (h:c∉s.data.toList):
  Calls Tryz.prog 150 #[.string s,.string ⟨#[c]⟩] w fun e w'=>e= .returned (.tuple #[.string s,.string .empty,.bool false])∧∃n,w'=w.drewN n:=by
 have HI:=af (indexByte_none h);clear h;go_enter Tryz.func150,Tryz.ntmps150
 go_wp2_with fail
 refine(vw s c _).mono ?_;rintro e w' ⟨rfl,rfl⟩;rw[HI.out];go_wp2;go_ret3;exact⟨rfl,0,rfl⟩
theorem MC (s:ByteArray) (c:UInt8) (a b:List UInt8) (w:World) (h:c∉a) (hs:s.data.toList=a++c::b) (hm:s.size≤9223372036854775807):
  Calls Tryz.prog 150 #[.string s,.string ⟨#[c]⟩] w fun e w'=>e= .returned (.tuple #[.string ⟨a.toArray⟩,.string ⟨b.toArray⟩,.bool true])∧∃n,w'=w.drewN n:=by
 have HI:Hid (Lib.indexByte s.data.toList c=(a.length:Int)):=af (by rw[hs];exact yV h);have hsz:s.size=a.length+1+b.length:=by rw[Lib.size_eq,hs];simp;omega
 have e1:s.extract 0 a.length=⟨a.toArray⟩:=by rw[Lib.extract_eq,hs];simp
 have e2:s.extract (a.length+1) s.size=⟨b.toArray⟩:=by
  rw[Lib.extract_eq,hsz,hs]
  congr 2
  rw[show a++c::b=(a++[c])++b by simp,List.drop_append_of_le_length (by simp),List.drop_of_length_le (by simp),List.nil_append];exact gW (by omega)
 have E1:=af e1;have E2:=af e2;have c1:(0:Int)≤(a.length:Int):=by omega
 have c2:(a.length:Int)≤(s.size:Int):=by omega
 have c3:(0:Int)≤(a.length:Int)+1:=by omega
 have c4:(a.length:Int)+1≤(s.size:Int):=by omega
 clear h hs e1 e2 hsz;obtain⟨k,hk⟩:∃k,a.length=k:=⟨_,rfl⟩;rw[hk] at HI E1 E2 c1 c2 c3 c4;clear hk;go_enter Tryz.func150,Tryz.ntmps150
 go_wp2_with fail
 refine(vw s c _).mono ?_;rintro e w' ⟨rfl,rfl⟩;rw[HI.out];go_wp2
 go_region
 all_goals (go_wp2;go_ret3;exact⟨by rw[←E1.out,←E2.out];rfl,1,rfl⟩)
theorem VE (s:ByteArray) (c:UInt8) (w:World) (h:c∉s.data.toList):
  Calls Tryz.prog 93 #[.string s,.string ⟨#[c]⟩] w fun e w'=>e= .returned (.tuple #[.string s,.string .empty,.bool false])∧∃n,w'=w.drewN n:=by
 go_enter Tryz.func93,Tryz.ntmps93
 go_wp2_with fail
 refine(FZ s c _ h).mono ?_;rintro e w' ⟨rfl,n,rfl⟩;go_wp2;go_ret3;exact⟨rfl,n,rfl⟩
theorem OZ (s:ByteArray) (c:UInt8) (a b:List UInt8) (w:World) (h:c∉a) (hs:s.data.toList=a++c::b) (hm:s.size≤9223372036854775807):
  Calls Tryz.prog 93 #[.string s,.string ⟨#[c]⟩] w fun e w'=>e= .returned (.tuple #[.string ⟨a.toArray⟩,.string ⟨b.toArray⟩,.bool true])∧∃n,w'=w.drewN n:=by
 have Zv:=af hs;clear hs;go_enter Tryz.func93,Tryz.ntmps93
 go_wp2_with fail
 refine(MC s c a b _ h Zv.out hm).mono ?_;rintro e w' ⟨rfl,n,rfl⟩;go_wp2;go_ret3;exact⟨rfl,n,rfl⟩
theorem small_ba (x:ByteArray) (l:List UInt8) (h:x.data.toList=l):x=⟨l.toArray⟩:=by subst h;cases x;simp
theorem Ew {i:Nat} (hi:i<100):Lib.decDigits i=iI i:=by
 by_cases h:i<10
 ·rw[←Lib.digits36_piece h];have:∀k,k<10→(Lib.digits36.data.toList.drop k).take (k+1-k)=iI k:=by decide+kernel
  exact this i h
 ·rw[←Lib.smalls_piece h hi];have:∀k,k<100→10≤k→(Lib.smalls.data.toList.drop (k*2)).take (k*2+2-k*2)=iI k:=by decide+kernel
  exact this i hi (by omega)
theorem SK (i:Nat) (h:i<100) (w:World):
  Calls Tryz.prog 205 #[.int .i64 i] w fun e w'=>e= .returned (.string ⟨(iI i).toArray⟩)∧w=w':=by
 rw[←Ew h];go_enter Tryz.func205,Tryz.ntmps205
 go_name_bytes_deep 45 SM hSM
 have eSM:SM=Lib.smalls:=by rw[←hSM];decide+kernel
 subst eSM;clear hSM
 go_name_bytes_deep 30 DG hDG
 have eDG:DG=Lib.digits36:=by rw[←hDG];decide+kernel
 subst eDG;clear hDG
 by_cases h10:i<10
 ·have hsl:∀w,(Instr.slice 9 (.string Lib.digits36) (some (.int .i64 (i:Int))) (some (.int .i64 ((i:Int)+1))) none).run Tryz.prog w= .ok (.string (Lib.digits36.extract i (i+1))) w:=fun w=>by
   rw[run_slice_string w 9 Lib.digits36 .i64 .i64 _ _ Tryz.underlying9 (by omega) (by omega) (by rw[Lib.digits36_size];omega),show((i:Int)).toNat=i by omega,show((i:Int)+1).toNat=i+1 by omega]
  go_wp2;go_ret;refine⟨?_,rfl⟩
  show Ending.returned (Value.string (Lib.digits36.extract i (i+1)))=_
  rw[small_ba (Lib.digits36.extract i (i+1)) (Lib.decDigits i) (by rw[Lib.extract_data];exact Lib.digits36_piece h10)]
 ·have hsl:∀w,(Instr.slice 9 (.string Lib.smalls) (some (.int .i64 ((i:Int)*2))) (some (.int .i64 ((i:Int)*2+2))) none).run Tryz.prog w= .ok (.string (Lib.smalls.extract (i*2) (i*2+2))) w:=fun w=>by
   rw[run_slice_string w 9 Lib.smalls .i64 .i64 _ _ Tryz.underlying9 (by omega) (by omega) (by rw[Lib.smalls_size];omega),show((i:Int)*2).toNat=i*2 by omega,show((i:Int)*2+2).toNat=i*2+2 by omega]
  go_wp2;go_ret;refine⟨?_,rfl⟩
  show Ending.returned (Value.string (Lib.smalls.extract (i*2) (i*2+2)))=_
  rw[small_ba (Lib.smalls.extract (i*2) (i*2+2)) (Lib.decDigits i) (by rw[Lib.extract_data];exact Lib.smalls_piece h10 h)]
theorem BX (i:Nat) (h:i<100) (w:World):
  Calls Tryz.prog 183 #[.int .i64 i,.int .i64 10] w fun e w'=>e= .returned (.string ⟨(iI i).toArray⟩)∧w=w':=by
 go_enter Tryz.func183,Tryz.ntmps183
 go_wp2_with (go_at_call 205;refine(SK i h _).mono ?_;rintro e w' ⟨rfl,rfl⟩)
 refine bodyPost_ret (v:=.string ⟨(iI i).toArray⟩) (by simp[results,Tryz.results183,go_sem]) rfl ⟨rfl,rfl⟩
theorem Ju (i:Nat) (h:i<100) (w:World):
  Calls Tryz.prog 151 #[.int .i64 i] w fun e w'=>e= .returned (.string ⟨(iI i).toArray⟩)∧w=w':=by
 go_enter Tryz.func151,Tryz.ntmps151
 go_wp2_with fail
 refine(BX i h _).mono ?_;rintro e w' ⟨rfl,rfl⟩;go_wp2;go_ret;exact⟨rfl,rfl⟩
theorem qw (i:Nat) (h:i<100) (w:World):
  Calls Tryz.prog 95 #[.int .i64 i] w fun e w'=>e= .returned (.string ⟨(iI i).toArray⟩)∧w=w':=by
 go_enter Tryz.func95,Tryz.ntmps95
 go_wp2_with fail
 refine(Ju i h _).mono ?_;rintro e w' ⟨rfl,rfl⟩;go_wp2;go_ret;exact⟨rfl,rfl⟩
theorem V8:(Tryz.prog.info? 117).map (·.size)=some 2:=by kernel_rfl
theorem aaW:liesAt Tryz.prog Tryz.prog.depth 117 (2/Tryz.prog.cellsOf 117) 0 117 1=true:=by kernel_rfl
theorem V9:(Tryz.prog.info? 5).map (fun i=>(i.zero,i.size,i.bytes))=some (some (.int .u8 0),1,1):=by kernel_rfl
theorem X8:Tryz.prog.cellsOf 5=1:=by kernel_rfl
theorem ES (b:Nat) (w:World) (h0:w.cell? ⟨b,0,none⟩=some (.pointer (some ⟨b,0,none⟩))):
  Calls Tryz.prog 152 #[.pointer (some ⟨b,0,none⟩)] w fun e w'=>e= .returned (.tuple #[])∧w'=w:=by
 obtain⟨j,hj,_⟩:=Option.map_eq_some_iff.1 V8;go_enter Tryz.func152,Tryz.ntmps152;go_wp2;rw[Lib.run_neq_ptr_same w _ Tryz.underlying115 hj];go_wp2
 go_end0
 exact⟨rfl,rfl⟩
theorem Ce (b:Nat) (w:World) (h0:w.cell? ⟨b,0,none⟩=some (.pointer none)) (hsh:w.shape? b=some (117,2)) (hfz:w.frozen? ⟨b,0,none⟩=false):
  Calls Tryz.prog 152 #[.pointer (some ⟨b,0,none⟩)] w fun e w'=>e= .returned (.tuple #[])∧w'=w.setCell ⟨b,0,none⟩ (.pointer (some ⟨b,0,none⟩)):=by
 obtain⟨j,hj,hjs⟩:=Option.map_eq_some_iff.1 V8;go_enter Tryz.func152,Tryz.ntmps152;go_wp2;rw[Lib.run_to_unsafe w ⟨b,0,none⟩ Tryz.underlying115 Tryz.underlying177 hj (by rw[hjs];decide) hsh (Nat.zero_lt_succ 1)];simp only[Result.andThen];rw[Oper.upon_value];go_wp2;rw[run_callFunc_extern Tryz.func184 (by kernel_rfl) (by kernel_rfl) (by kernel_rfl) (e:=Extern.AbiNoEscape.same) (by kernel_rfl)];rw[Lib.run_noEscape];simp only[Result.andThen];rw[Oper.upon_value];go_wp2;rw[Lib.run_from_unsafe w ⟨b,0,none⟩ Tryz.underlying177 Tryz.underlying115 hj hsh aaW];simp only[Result.andThen];rw[Oper.upon_value];go_wp2
 go_end0
 exact⟨rfl,rfl⟩
abbrev QS (B b:Nat) (l:List UInt8) (w:World):Prop:=Lib.IsBuilder 117 5 B b (Lib.byteCells l) w
abbrev Kept (b:Nat) (w w':World):Prop:=Lib.OthersKept 5 (some b) w w'
theorem Nq {w:World} {B:Nat} {e:TypeId} {v:Value} {n:Nat} {xs:List Value} (h:w.ownsRow B e 1 v n xs):∀g,v.ownBlock=some g→∃c fz,w.heap[g]? =some (.cells c e fz):=by
 intro g hg
 rcases h.2 with⟨rfl,_⟩ | ⟨g',cap,cur,rfl,_,hgg,_⟩
 ·simp[Value.ownBlock] at hg
 ·simp[Value.ownBlock] at hg
  subst hg;exact⟨cur,_,hgg⟩
theorem wZ (B b:Nat) (bs:List Value) (w:World) (h:Lib.IsBuilder 117 5 B b bs w):
  Calls Tryz.prog 152 #[.pointer (some ⟨b,0,none⟩)] w fun e w'=>e= .returned (.tuple #[])∧(Lib.BuilderAt 117 5 B b (.pointer (some ⟨b,0,none⟩)) bs w'∧Below B w w'∧Kept b w w'):=by
 rcases h with h | h
 ·refine(Ce b w h.cell0 h.shape h.frozen0).mono ?_;rintro e w' ⟨rfl,rfl⟩;exact⟨rfl,h.used _,(ai B w).setCell (p:=⟨b,0,none⟩) h.1 _,(Lib.OthersKept.refl _ _ _).setCell ⟨b,0,none⟩ rfl _⟩
 ·refine(ES b w h.cell0).mono ?_;rintro e w' ⟨rfl,rfl⟩;exact⟨rfl,h,ai B _,Lib.OthersKept.refl _ _ _⟩
theorem aaV {B b:Nat} {l:List UInt8} {w:World} (h:QS B b l w):b<w.heap.size:=by rcases h with h | h<;>exact h.lt
theorem Np (B b:Nat) (l:List UInt8) (c:UInt8) (w:World) (h:QS B b l w) (hlen:l.length+1≤140737488355328) (hBw:B≤w.heap.size):
  Calls Tryz.prog 97 #[.pointer (some ⟨b,0,none⟩),.int .u8 c.toNat] w fun e w'=>e= .returned .nilIface∧(QS B b (l++[c]) w'∧Below B w w'∧Kept b w w'):=by
 obtain⟨i0,hi,hz0,hz1,hz2⟩:=info_parts V9;have hbl:(Lib.byteCells l).length=l.length:=Lib.byteCells_length l;obtain⟨bs,hbs⟩:∃bs,Lib.byteCells l=bs:=⟨_,rfl⟩;have heq:Lib.byteCells (l++[c])=bs++[.int .u8 c.toNat]:=by rw[←hbs];simp[Lib.byteCells]
 unfold QS at h ⊢
 rw[heq];rw[hbs] at h hbl;rw[←hbl] at hlen;clear hbl hbs heq;obtain⟨cn,hcn⟩:∃cn:Int,(c.toNat:Int)=cn:=⟨_,rfl⟩;rw[hcn];clear hcn;go_enter Tryz.func97,Tryz.ntmps97
 go_wp2_with (go_at_call 152;refine(wZ B b bs _ h).mono ?_)
 rintro e w1 ⟨rfl,h1,hb1,hk1⟩;obtain⟨hB,v,hbk,hown,hne⟩:=h1;have c0:w1.cell? ⟨b,0,none⟩=some (.pointer (some ⟨b,0,none⟩)):=by rw[Lib.cell_of_heap hbk];rfl
 have c1:w1.cell? ⟨b,1,none⟩=some v:=by rw[Lib.cell_of_heap hbk];rfl
 go_wp2_with (at_builtin;refine wpList_append_own _ rfl _ _ 22 rfl B 5 i0 (.int .u8 0) 1 1 Tryz.underlying22 hi hz0 hz1 hz2 rfl (by decide) _ _ _ rfl (hown.alloc _) ⟨w1.heap.size,0,none⟩ 1 1 [.int .u8 cn] rfl rfl ?c1 ?c2 ?c3 ?c4 ?c5 ?_)
 case c1=>
  intro j u hj
  match j,hj with
  |0,hj=>simp at hj;subst hj;simp[Addr.add]
 case c2=>intro u hu;simp at hu;subst hu;rfl
 case c3=>unfold maxLen;omega
 case c4=>omega
 case c5=>have:=hb1.size;simp;omega
 intro v' w2 hown' hgrow _
 have hlt:b<w1.heap.size:=by
  rcases Nat.lt_or_ge b w1.heap.size with h' | h'
  ·exact h'
  ·simp[Array.getElem?_eq_none h'] at hbk
 have hb2:w2.heap[b]? =some (.cells #[.pointer (some ⟨b,0,none⟩),v] 117 (0,0)):=by
  rw[hgrow.block b (by simp;omega) (fun e=>hne e.symm),Lib.alloc_old w1 _ b hlt];exact hbk
 have d0:w2.cell? ⟨b,0,none⟩=some (.pointer (some ⟨b,0,none⟩)):=by rw[Lib.cell_of_heap hb2];rfl
 have d1:w2.cell? ⟨b,1,none⟩=some v:=by rw[Lib.cell_of_heap hb2];rfl
 have f1:w2.frozen? ⟨b,1,none⟩=false:=Lib.frozen_of_heap hb2 1
 obtain⟨g,cap,rfl⟩:∃g cap,v'= .slice (some ⟨g,0,none⟩) (bs.length+1) cap:=by
  rcases hown'.2 with⟨_,h0⟩ | ⟨g,cap,cur,hv,_⟩
  ·omega
  ·exact⟨g,cap,hv⟩
 go_wp2;go_ret;refine⟨rfl,.inr ?_,?_,?_⟩
 ·exact Lib.BuilderAt.put (T:=117) (e:=5) hB hb2 (bs':=bs++[.int .u8 cn]) (by simpa using hown') (by decide)
 ·exact((hb1.alloc (by have:=hb1.size;omega) _).grown hgrow (by have:=hb1.size;simp;omega) (fun k hk=>(hown.lt k hk).1)).setCell (p:=⟨b,1,none⟩) hB _
 ·exact((hk1.alloc _).grown hgrow (Nq (hown.alloc _))).setCell ⟨b,1,none⟩ rfl _
theorem Gi (B b:Nat) (l:List UInt8) (s:ByteArray) (w:World) (h:QS B b l w) (hlen:l.length+s.size≤140737488355328) (hBw:B≤w.heap.size):
  Calls Tryz.prog 96 #[.pointer (some ⟨b,0,none⟩),.string s] w fun e w'=>e= .returned (.tuple #[.int .i64 s.size,.nilIface])∧(QS B b (l++s.data.toList) w'∧Below B w w'∧Kept b w w'):=by
 obtain⟨i0,hi,hz0,hz1,hz2⟩:=info_parts V9;have hbl:(Lib.byteCells l).length=l.length:=Lib.byteCells_length l;obtain⟨bs,hbs⟩:∃bs,Lib.byteCells l=bs:=⟨_,rfl⟩;have heq:Lib.byteCells (l++s.data.toList)=bs++Lib.strCells s:=by rw[←hbs];simp[Lib.byteCells,Lib.strCells]
 unfold QS at h ⊢
 rw[heq];rw[hbs] at h hbl;rw[←hbl] at hlen;clear hbl hbs heq;go_enter Tryz.func96,Tryz.ntmps96
 go_wp2_with (go_at_call 152;refine(wZ B b bs _ h).mono ?_)
 rintro e w1 ⟨rfl,h1,hb1,hk1⟩;obtain⟨hB,v,hbk,hown,hne⟩:=h1;have c0:w1.cell? ⟨b,0,none⟩=some (.pointer (some ⟨b,0,none⟩)):=by rw[Lib.cell_of_heap hbk];rfl
 have c1:w1.cell? ⟨b,1,none⟩=some v:=by rw[Lib.cell_of_heap hbk];rfl
 go_wp2_with (at_builtin;refine Lib.wpList_append_own_string _ rfl _ _ 22 9 rfl B 5 i0 Tryz.underlying22 Tryz.underlying9 hi hz0 hz1 hz2 _ _ _ rfl hown s rfl ?c3 ?c4 ?c5 ?_)
 case c3=>unfold maxLen;omega
 case c4=>omega
 case c5=>have:=hb1.size;omega
 intro v' w2 hown' hgrow _
 have hlt:b<w1.heap.size:=by
  rcases Nat.lt_or_ge b w1.heap.size with h' | h'
  ·exact h'
  ·simp[Array.getElem?_eq_none h'] at hbk
 have hb2:w2.heap[b]? =some (.cells #[.pointer (some ⟨b,0,none⟩),v] 117 (0,0)):=by
  rw[hgrow.block b hlt (fun e=>hne e.symm)];exact hbk
 have d0:w2.cell? ⟨b,0,none⟩=some (.pointer (some ⟨b,0,none⟩)):=by rw[Lib.cell_of_heap hb2];rfl
 have d1:w2.cell? ⟨b,1,none⟩=some v:=by rw[Lib.cell_of_heap hb2];rfl
 have f1:w2.frozen? ⟨b,1,none⟩=false:=Lib.frozen_of_heap hb2 1
 obtain⟨ao,n',cap,rfl⟩:∃ao n' cap,v'= .slice ao n' cap:=by
  rcases hown'.2 with⟨hv,_⟩ | ⟨g,cap,cur,hv,_⟩
  ·exact⟨_,_,_,hv⟩
  ·exact⟨_,_,_,hv⟩
 go_wp2;go_ret2;refine⟨rfl,.inr ?_,?_,?_⟩
 ·exact Lib.BuilderAt.put (T:=117) (e:=5) hB hb2 (bs':=bs++Lib.strCells s) (by simpa[Lib.strCells_length] using hown') (by decide)
 ·exact(hb1.grown hgrow (by have:=hb1.size;omega) (fun k hk=>(hown.lt k hk).1)).setCell (p:=⟨b,1,none⟩) hB _
 ·exact(hk1.grown hgrow (Nq hown)).setCell ⟨b,1,none⟩ rfl _
theorem xW (B b:Nat) (l:List UInt8) (w:World) (h:QS B b l w) (h0:l≠[]):
  Calls Tryz.prog 98 #[.pointer (some ⟨b,0,none⟩)] w fun e w'=>e= .returned (.string ⟨l.toArray⟩)∧Below B w w':=by
 obtain⟨p,hB,v,hbk,hown,hne⟩:∃p,Lib.BuilderAt 117 5 B b p (Lib.byteCells l) w:=by
  rcases h with h | h
  ·exact⟨_,h⟩
  ·exact⟨_,h⟩
 have hl0:l.length≠0:=by simpa using h0
 rw[Lib.byteCells_length] at hown
 obtain⟨g,cap,cur,rfl,hbg,hg,hnc,hcm,hcs,htake⟩:∃g cap cur,v= .slice (some ⟨g,0,none⟩) l.length cap∧B≤g∧w.heap[g]? =some (.cells cur 5 (0,0))∧l.length≤cap∧cap≤maxLen∧cur.size=cap*1∧cur.toList.take (l.length*1)=Lib.byteCells l:=by
  rcases hown.2 with⟨_,hz⟩ | ⟨g,cap,cur,hv,r⟩
  ·exact absurd hz hl0
  ·exact⟨g,cap,cur,hv,r⟩
 have c1:w.drew.cell? ⟨b,1,none⟩=some (.slice (some ⟨g,0,none⟩) l.length cap):=by
  have:w.drew.heap[b]? =some (.cells #[p,.slice (some ⟨g,0,none⟩) l.length cap] 117 (0,0)):=hbk;rw[Lib.cell_of_heap this];rfl
 have hSD:(Builtin.unsafeSliceData_ #[22] 159 #[.slice (some ⟨g,0,none⟩) l.length cap]).run Tryz.prog w.drew= .ok (.pointer (some ⟨g,0,none⟩)) w.drew:=
  Lib.run_unsafeSliceData_row _ _ _ _ _ _ (by omega)
 have hUS:(Builtin.unsafeString_ #[159,3] 9 #[.pointer (some ⟨g,0,none⟩),.int .i64 l.length]).run Tryz.prog w.drew= .ok (.string ⟨l.toArray⟩) (w.drew.freeze ⟨g,0,none⟩ l.length):=by
  refine Lib.run_unsafeString_row w.drew 159 3 9 5 Tryz.underlying159 X8 g cur.size (by have hg':w.drew.heap[g]? =some (.cells cur 5 (0,0)):=hg;simp[World.shape?,hg']) l h0 (by omega) (by unfold maxLen at hcm;omega) ?_;intro j x hx
  have:=hown.cells (g:=g) rfl j (.int .u8 x.toNat) (by simp[Lib.byteCells,hx])
  exact this
 go_enter Tryz.func98,Tryz.ntmps98;go_wp2
 go_region
 all_goals (go_wp2;go_ret;exact⟨rfl,Lib.below_freeze (Below.drew (ai B w)) (p:=⟨g,0,none⟩) hbg _⟩)
theorem unsafeString_none (W:World) (q:Option Addr):(Builtin.unsafeString_ #[159,3] 9 #[.pointer q,.int .i64 0]).run Tryz.prog W= .ok (.string .empty) W:=
 Lib.run_unsafeString_none W _ _ _ q
theorem zn (B b:Nat) (p:Value) (w:World) (hbk:w.heap[b]? =some (.cells #[p,.slice none 0 0] 117 (0,0))):
  Calls Tryz.prog 98 #[.pointer (some ⟨b,0,none⟩)] w fun e w'=>e= .returned (.string ⟨#[]⟩)∧Below B w w':=by
 have hUS:=unsafeString_none
 have c1:w.drew.cell? ⟨b,1,none⟩=some (.slice none 0 0):=by
  have:w.drew.heap[b]? =some (.cells #[p,.slice none 0 0] 117 (0,0)):=hbk;rw[Lib.cell_of_heap this];rfl
 have hSD:(Builtin.unsafeSliceData_ #[22] 159 #[.slice none 0 0]).run Tryz.prog w.drew= .ok (.pointer none) w.drew:=rfl;go_enter Tryz.func98,Tryz.ntmps98;go_wp2
 go_region
 all_goals (go_wp2;go_ret;exact⟨rfl,Below.drew (ai B w)⟩)
theorem vK (B b g:Nat) (p:Value) (cur:Array Value) (w:World) (hBw:B≤w.heap.size) (hbk:w.heap[b]? =some (.cells #[p,.slice (some ⟨g,0,none⟩) 0 0] 117 (0,0))) (hg:w.heap[g]? =some (.cells cur 5 (0,0))):
  Calls Tryz.prog 98 #[.pointer (some ⟨b,0,none⟩)] w fun e w'=>e= .returned (.string ⟨#[]⟩)∧Below B w w':=by
 have hUS:=unsafeString_none
 have hlt:b<w.heap.size:=by
  rcases Nat.lt_or_ge b w.heap.size with h' | h'
  ·exact h'
  ·simp[Array.getElem?_eq_none h'] at hbk
 have c1:w.drew.cell? ⟨b,1,none⟩=some (.slice (some ⟨g,0,none⟩) 0 0):=by
  have:w.drew.heap[b]? =some (.cells #[p,.slice (some ⟨g,0,none⟩) 0 0] 117 (0,0)):=hbk;rw[Lib.cell_of_heap this];rfl
 have hSD:(Builtin.unsafeSliceData_ #[22] 159 #[.slice (some ⟨g,0,none⟩) 0 0]).run Tryz.prog w.drew= .ok (.pointer (some ⟨w.drew.heap.size,0,none⟩)) (w.drew.alloc (.view ⟨g,0,none⟩ 5)):=
  Lib.run_unsafeSliceData_zero w.drew _ _ 5 Tryz.underlying159 ⟨g,0,none⟩ 0 (5,cur.size) (by have hg':w.drew.heap[g]? =some (.cells cur 5 (0,0)):=hg;simp[World.shape?,hg'])
 have c2:(w.drew.alloc (.view ⟨g,0,none⟩ 5)).cell? ⟨b,1,none⟩=some (.slice (some ⟨g,0,none⟩) 0 0):=by
  have:(w.drew.alloc (.view ⟨g,0,none⟩ 5)).heap[b]? =_:=(Lib.alloc_old w.drew _ b hlt).trans hbk;rw[Lib.cell_of_heap this];rfl
 have c3:(w.alloc (.view ⟨g,0,none⟩ 5)).drew.cell? ⟨b,1,none⟩=some (.slice (some ⟨g,0,none⟩) 0 0):=c2;have c0:w.cell? ⟨b,1,none⟩=some (.slice (some ⟨g,0,none⟩) 0 0):=c1;go_enter Tryz.func98,Tryz.ntmps98;go_wp2
 go_region
 all_goals (go_wp2;go_ret;exact⟨rfl,(Below.drew (ai B w)).alloc hBw _⟩)
theorem xX (B b g cap:Nat) (p:Value) (w:World) (hc0:cap≠0) (hbk:w.heap[b]? =some (.cells #[p,.slice (some ⟨g,0,none⟩) 0 cap] 117 (0,0))):
  Calls Tryz.prog 98 #[.pointer (some ⟨b,0,none⟩)] w fun e w'=>e= .returned (.string ⟨#[]⟩)∧Below B w w':=by
 have hUS:=unsafeString_none
 have c1:w.drew.cell? ⟨b,1,none⟩=some (.slice (some ⟨g,0,none⟩) 0 cap):=by
  have:w.drew.heap[b]? =some (.cells #[p,.slice (some ⟨g,0,none⟩) 0 cap] 117 (0,0)):=hbk;rw[Lib.cell_of_heap this];rfl
 have hSD:(Builtin.unsafeSliceData_ #[22] 159 #[.slice (some ⟨g,0,none⟩) 0 cap]).run Tryz.prog w.drew= .ok (.pointer (some ⟨g,0,none⟩)) w.drew:=
  Lib.run_unsafeSliceData_row _ _ _ _ _ _ hc0
 clear hc0;go_enter Tryz.func98,Tryz.ntmps98;go_wp2
 go_region
 all_goals (go_wp2;go_ret;exact⟨rfl,Below.drew (ai B w)⟩)
theorem zl (B b:Nat) (l:List UInt8) (w:World) (h:QS B b l w) (hBw:B≤w.heap.size):
  Calls Tryz.prog 98 #[.pointer (some ⟨b,0,none⟩)] w fun e w'=>e= .returned (.string ⟨l.toArray⟩)∧Below B w w':=by
 cases l with
 |cons x r=>exact xW B b (x::r) w h (by simp)
 |nil=>
  obtain⟨p,hB,v,hbk,hown,hne⟩:∃p,Lib.BuilderAt 117 5 B b p [] w:=by
   rcases h with h | h
   ·exact⟨_,h⟩
   ·exact⟨_,h⟩
  rcases hown.2 with⟨rfl,_⟩ | ⟨g,cap,cur,rfl,hbg,hg,r⟩
  ·exact zn B b p w hbk
  ·by_cases hc0:cap=0
   ·subst hc0;exact vK B b g p cur w hBw hbk hg
   ·exact xX B b g cap p w hc0 hbk
def lY (acc:Int):List UInt8→Option Int
 | []=>some acc
 |c::cs=>if c.toNat<48∨57<c.toNat then none else lY (acc*10+((c.toNat:Int)-48)) cs
def rdNum (d:Int) (t:List UInt8):Option Int:=
 if t=[]∨d<(t.length:Int)∨t.head? =some 48∧1<t.length then none else lY 0 t
theorem BB (t:List UInt8):rdNum 2 t=(rH t).map fun(n:Nat)=>(n:Int):=by
 match t with
 | []=>rfl
 | [c]=>
  have h1:c.toNat<256:=UInt8.toNat_lt c;simp only[rdNum,rH,lY,Et]
  by_cases h:c.toNat<48∨57<c.toNat
  ·have h2:¬(48≤c.toNat∧c.toNat≤57):=by omega
   simp[h,h2]
  ·have h2:48≤c.toNat∧c.toNat≤57:=by omega
   simp[h,h2];omega
 | [c,d]=>
  simp only[rdNum,rH,lY,Et]
  by_cases h0:c=48
  ·simp[h0]
  ·by_cases h:c.toNat<48∨57<c.toNat
   ·have h2:¬(48≤c.toNat∧c.toNat≤57):=by omega
    simp[h,h2,h0]
   ·have h2:48≤c.toNat∧c.toNat≤57:=by omega
    by_cases h':d.toNat<48∨57<d.toNat
    ·have h3:¬(48≤d.toNat∧d.toNat≤57):=by omega
     simp[h,h2,h0,h',h3]
    ·have h3:48≤d.toNat∧d.toNat≤57:=by omega
     simp[h,h2,h0,h',h3];omega
 |a::b::c::r=>
  simp[rdNum,rH];omega
theorem drop_at (s:ByteArray) (k:Nat) (h:k<s.size):s.data.toList.drop k=s[k]::s.data.toList.drop (k+1):=by
 rw[List.drop_eq_getElem_cons (by rw[←Lib.size_eq];exact h)]
 rfl
theorem drop_end (s:ByteArray) (k:Nat) (h:s.size≤k):s.data.toList.drop k=[]:=List.drop_eq_nil_of_le (by rw[←Lib.size_eq];exact h)
theorem Ht {acc:Int} {s:ByteArray} {k:Nat} (h:k<s.size) (h1:48≤(s[k].toNat:Int)) (h2:(s[k].toNat:Int)≤57):lY acc (s.data.toList.drop k)=lY (acc*10+((s[k].toNat:Int)-48)) (s.data.toList.drop (k+1)):=by
 rw[drop_at s k h];simp only[lY];rw[if_neg (by omega)]
theorem MB {acc:Int} {s:ByteArray} {k:Nat} (h:k<s.size) (h1:(s[k].toNat:Int)<48∨57<(s[k].toNat:Int)):lY acc (s.data.toList.drop k)=none:=by
 rw[drop_at s k h];simp only[lY];rw[if_pos (by omega)]
theorem rM (k:Nat) (h:k≤17):(10:Int)^k≤100000000000000000:=by
 have h1:=Nat.pow_le_pow_right (n:=10) (by omega) h;have e:(10:Nat)^17=100000000000000000:=by decide+kernel
 rw[e] at h1;have h2:=Int.ofNat_le.2 h1;rw[Int.natCast_pow] at h2;exact h2
def VB (o:Option Int) (e:Ending):Prop:=e= .returned (.tuple #[.int .i64 (o.getD 0),.bool o.isSome])
theorem nD (s:ByteArray) (d:Int) (w:World) (hd:d≤18) (hs:s.size≤9223372036854775807):
  Calls Tryz.prog 109 #[.string s,.int .i64 d] w fun e w'=>VB (rdNum d s.data.toList) e∧w=w':=by
 have hsl:s.data.toList.length=s.size:=(Lib.size_eq s).symm;have htl:s.toList=s.data.toList:=Lib.toList_data s
 by_cases h0:s.size=0
 ·have he:s.data.toList=[]:=List.eq_nil_of_length_eq_zero (by omega);have ht:s.toList.isEmpty=true:=by rw[htl,he];rfl
  have HN:Hid (rdNum d s.data.toList=none):=af (by unfold rdNum;rw[if_pos (.inl he)]);clear hsl htl he h0;go_enter Tryz.func109,Tryz.ntmps109;go_wp2;go_ret2;exact⟨by rw[HN.out];rfl,rfl⟩
 have hne:s.data.toList≠[]:=fun e=>by rw[e] at hsl;simp at hsl;omega
 have ht:s.toList.isEmpty=false:=by rw[htl];cases h:s.data.toList with | nil=>exact absurd h hne | cons a b=>rfl
 have h1:0<s.size:=by omega
 by_cases hlt:d<(s.size:Int)
 ·have HN:Hid (rdNum d s.data.toList=none):=af (by unfold rdNum;rw[if_pos (.inr (.inl (by rw[hsl];exact hlt)))]);clear hsl htl hne h0;go_enter Tryz.func109,Tryz.ntmps109;go_wp2;go_ret2;exact⟨by rw[HN.out];rfl,rfl⟩
 have hsz:s.size≤18:=by omega
 have hhd:s.data.toList.head? =some s[0]:=by
  have:=drop_at s 0 h1
  rw[List.drop_zero] at this;rw[this];rfl
 by_cases hz:s[0].toNat=48∧1<s.size
 ·obtain⟨hz,h2⟩:=hz;have HN:Hid (rdNum d s.data.toList=none):=af (by unfold rdNum;rw[if_pos (.inr (.inr ⟨by rw[hhd];exact congrArg some (UInt8.toNat_inj.1 (by rw[hz];rfl)),by omega⟩))]);have hz1:((s[0].toNat:Int) == 48)=true:=by simp[hz]
  have h2':(1:Int)<(s.size:Int):=by omega
  clear hsl htl hne h0 hhd hz;go_enter Tryz.func109,Tryz.ntmps109;go_wp2;go_ret2;exact⟨by rw[HN.out];rfl,rfl⟩
 have HN:Hid (rdNum d s.data.toList=lY 0 s.data.toList):=af (by
  unfold rdNum
  rw[if_neg];rintro(h | h | ⟨h,h'⟩)
  ·exact hne h
  ·rw[hsl] at h;exact hlt h
  ·rw[hhd] at h
   injection h with h
   exact hz ⟨by rw[h];rfl,by omega⟩)
 have HZ:Hid (¬(s[0].toNat=48∧1<s.size)):=af hz;clear hsl htl hne h0 hhd hz;have tail:∀a:Act,True:=fun _=>trivial
 by_cases h48:s[0].toNat=48
 ·have hz1:((s[0].toNat:Int) == 48)=true:=by simp[h48]
  have h2':¬(1:Int)<(s.size:Int):=by have:=HZ.out;omega
  clear h48 tail;go_enter Tryz.func109,Tryz.ntmps109;go_wp2;clear hz1
  go_loop [6,28] (fun n i=>∃(k:Nat) (acc:Int),k≤s.size∧i= .int .i64 k∧n= .int .i64 acc∧Hid (0≤acc∧acc<10^k)∧Hid (lY 0 s.data.toList=lY acc (s.data.toList.drop k))) (fun _ i=>s.size-(intOf i).toNat)
  case atStart=>exact⟨0,0,by omega,rfl,rfl,af (by decide),af (by rw[List.drop_zero])⟩
  case round=>
   obtain⟨k,acc,hk,rfl,rfl,hacc,hrd⟩:=hrel
   by_cases hkl:k<s.size
   ·have hb:s[k].toNat<256:=UInt8.toNat_lt _
    by_cases hbad:(s[k].toNat:Int)<48∨57<(s[k].toNat:Int)
    ·have HB:Hid (rdNum d s.data.toList=none):=af (by rw[HN.out,hrd.out,MB hkl hbad])
     rcases hbad with h3 | h3
     ·go_wp2;go_ret2;exact⟨by rw[HB.out];rfl,rfl⟩
     ·have h4:¬(s[k].toNat:Int)<48:=by omega
      go_wp2;go_ret2;exact⟨by rw[HB.out];rfl,rfl⟩
    ·have h3:¬(s[k].toNat:Int)<48:=by omega
     have h4:¬57<(s[k].toNat:Int):=by omega
     have h5:48≤(s[k].toNat:Int):=by omega
     have ha0:0≤acc:=hacc.out.1
     have ha1:acc<100000000000000000:=by
      have h6:=hacc.out.2;have h7:(10:Int)^k≤100000000000000000:=rM k (by omega)
      omega
     have HS:Hid (lY 0 s.data.toList=lY (acc*10+((s[k].toNat:Int)-48)) (s.data.toList.drop (k+1))):=af (by rw[hrd.out];exact Ht hkl h5 (by omega))
     have HA:Hid (0≤acc*10+((s[k].toNat:Int)-48)∧acc*10+((s[k].toNat:Int)-48)<10^(k+1)):=af (by
      have h6:=hacc.out.2;rw[Int.pow_succ]
      omega)
     clear hbad;go_wp2
     go_round
     case rel=>exact⟨k+1,_,by omega,by go_num,rfl,HA,HS⟩
     case measure=>simp[intOf];omega
   ·have hke:k=s.size:=by omega
    have HE:Hid (rdNum d s.data.toList=some acc):=af (by rw[HN.out,hrd.out,drop_end s k (by omega)];rfl);clear hke;go_wp2;go_ret2;exact⟨by rw[HE.out];rfl,rfl⟩
 ·have hz1:((s[0].toNat:Int) == 48)=false:=by simp;omega
  clear h48 tail;go_enter Tryz.func109,Tryz.ntmps109;go_wp2;clear hz1
  go_loop [6,28] (fun n i=>∃(k:Nat) (acc:Int),k≤s.size∧i= .int .i64 k∧n= .int .i64 acc∧Hid (0≤acc∧acc<10^k)∧Hid (lY 0 s.data.toList=lY acc (s.data.toList.drop k))) (fun _ i=>s.size-(intOf i).toNat)
  case atStart=>exact⟨0,0,by omega,rfl,rfl,af (by decide),af (by rw[List.drop_zero])⟩
  case round=>
   obtain⟨k,acc,hk,rfl,rfl,hacc,hrd⟩:=hrel
   by_cases hkl:k<s.size
   ·have hb:s[k].toNat<256:=UInt8.toNat_lt _
    by_cases hbad:(s[k].toNat:Int)<48∨57<(s[k].toNat:Int)
    ·have HB:Hid (rdNum d s.data.toList=none):=af (by rw[HN.out,hrd.out,MB hkl hbad])
     rcases hbad with h3 | h3
     ·go_wp2;go_ret2;exact⟨by rw[HB.out];rfl,rfl⟩
     ·have h4:¬(s[k].toNat:Int)<48:=by omega
      go_wp2;go_ret2;exact⟨by rw[HB.out];rfl,rfl⟩
    ·have h3:¬(s[k].toNat:Int)<48:=by omega
     have h4:¬57<(s[k].toNat:Int):=by omega
     have h5:48≤(s[k].toNat:Int):=by omega
     have ha0:0≤acc:=hacc.out.1
     have ha1:acc<100000000000000000:=by
      have h6:=hacc.out.2;have h7:(10:Int)^k≤100000000000000000:=rM k (by omega)
      omega
     have HS:Hid (lY 0 s.data.toList=lY (acc*10+((s[k].toNat:Int)-48)) (s.data.toList.drop (k+1))):=af (by rw[hrd.out];exact Ht hkl h5 (by omega))
     have HA:Hid (0≤acc*10+((s[k].toNat:Int)-48)∧acc*10+((s[k].toNat:Int)-48)<10^(k+1)):=af (by
      have h6:=hacc.out.2;rw[Int.pow_succ]
      omega)
     clear hbad;go_wp2
     go_round
     case rel=>exact⟨k+1,_,by omega,by go_num,rfl,HA,HS⟩
     case measure=>simp[intOf];omega
   ·have hke:k=s.size:=by omega
    have HE:Hid (rdNum d s.data.toList=some acc):=af (by rw[HN.out,hrd.out,drop_end s k (by omega)];rfl);clear hke;go_wp2;go_ret2;exact⟨by rw[HE.out];rfl,rfl⟩
end Go.Proofs.YtkmcengmglgdeaaGreatDoor
