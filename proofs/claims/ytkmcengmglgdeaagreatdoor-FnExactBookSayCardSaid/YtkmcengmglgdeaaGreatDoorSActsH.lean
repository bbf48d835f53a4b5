/- Joined texts: ActsH, EndP, TextP, StrL, Itoa. -/
import Derived.Test.YtkmcengmglgdeaaGreatDoorSEndActs
import Derived.Test.YtkmcengmglgdeaaGreatDoorSPush
import Derived.Test.YtkmcengmglgdeaaGreatDoorSBack
import Derived.Laws.StructEq
import Derived.Test.YtkmcengmglgdeaaGreatDoorSRunB
import Derived.Test.YtkmcengmglgdeaaGreatDoorSDoI
import Derived.Test.YtkmcengmglgdeaaGreatDoorSBase
import Derived.Lib.Strings
import Derived.Lib.Slices
import Derived.Lib.Walk
import Derived.Lib.Bytealg
import Derived.Lib.CutLaws
import Derived.Lib.ItoaNum
import Derived.Lib.ItoaWalk
import Derived.Lib.Hide
import Derived.BigCall

namespace Go.Proofs.YtkmcengmglgdeaaGreatDoor
set_option linter.unusedVariables false
set_option linter.unusedSimpArgs false
set_option maxRecDepth 100000
set_option maxHeartbeats 8000000
open Go.ChangeShapes Go.WideShapes Go.ChangeAt Go.RowKit Go.Deep
section
variable {H : Type} {enc : TypeId × Value → H} {W : World} {base : Nat} {spare : Nat → Bool} {held : Bool} {fuel : Nat} {cs : List Value} {x : DataW H × List MemPlace}
end
def aew (aa:List iC) (k:Nat):List iC:=aa.take k++List.replicate (aa.length-k) ⟨0,0⟩

def jQ (n:Nat):UInt8:=UInt8.ofNat (48+n)
def gZ (n:Nat):List UInt8:=if n<10 then [jQ n] else [jQ (n/10),jQ (n%10)]
def Mc:List UInt8:=[100,111]
def o8:List UInt8:=[98,97,99,107]
def rX:List UInt8:=[115,104,111,114,116]
def endW:List UInt8:=[101,110,100]
def ni (k n:Int):List UInt8:=
 if k=0∧0≤n∧n≤99 then Mc++32::gZ n.toNat
 else if k=1∧0≤n∧n≤99 then o8++32::gZ n.toNat
 else if k=2∧n=0 then rX
 else if k=3∧n=0 then endW
 else []
def Dv (c:UInt8):Bool:=48≤c.toNat&&c.toNat≤57
def qN (t:List UInt8):Option Nat:=
 match t with
 | [c]=>if Dv c then some (c.toNat-48) else none
 | [c,d]=>if c≠48∧Dv c=true∧Dv d=true then some (10*(c.toNat-48)+(d.toNat-48)) else none
 |_=>none
def readA (s:List UInt8):Option (Int×Int):=
 if s=rX then some (2,0)
 else if s=endW then some (3,0)
 else if(Mc++[32]).isPrefixOf s=true then(qN (s.drop 3)).map fun(n:Nat)=>((0:Int),(n:Int))
 else if(o8++[32]).isPrefixOf s=true then(qN (s.drop 5)).map fun(n:Nat)=>((1:Int),(n:Int))
 else none
theorem Gj {c:UInt8}:Dv c=true↔48≤c.toNat∧c.toNat≤57:=by simp[Dv]
theorem Dw {t:List UInt8} {n:Nat} (h:qN t=some n):n<100∧gZ n=t:=by
 match t,h with
 | [c],h=>
  simp only[qN] at h
  split at h
  ·rename_i hd;rw[Gj] at hd
   injection h with h
   refine⟨by omega,?_⟩
   unfold gZ
   rw[if_pos (by omega)]
   unfold jQ
   rw[show 48+n=c.toNat by omega,UInt8.ofNat_toNat]
  ·cases h
 | [c,d],h=>
  simp only[qN] at h
  split at h
  ·rename_i hd;obtain⟨h0,h1,h2⟩:=hd;rw[Gj] at h1 h2
   injection h with h
   have h3:c.toNat≠48:=fun e=>h0 (UInt8.toNat_inj.1 (by rw[e];rfl))
   refine⟨by omega,?_⟩
   unfold gZ
   rw[if_neg (by omega)]
   unfold jQ
   rw[show 48+n/10=c.toNat by omega,show 48+n%10=d.toNat by omega,UInt8.ofNat_toNat,UInt8.ofNat_toNat]
  ·cases h
 | [],h=>cases h
 |_::_::_::_,h=>cases h
theorem ku (n:Nat):1≤(gZ n).length∧(gZ n).length≤2:=by unfold gZ;split<;>simp
inductive wW:Int→Int→List UInt8→Prop
 |ZP (n:Nat):n<100→wW 0 n (Mc++32::gZ n)
 |back (n:Nat):n<100→wW 1 n (o8++32::gZ n)
 |short:wW 2 0 rX
 |end_:wW 3 0 endW
theorem UZ {k n:Int} (h:ni k n≠[]):wW k n (ni k n):=by
 unfold ni at h ⊢
 by_cases h1:k=0∧0≤n∧n≤99
 ·rw[if_pos h1];obtain⟨rfl,a,b⟩:=h1;obtain⟨m,rfl⟩:=bI a;exact .ZP m (by omega)
 ·rw[if_neg h1] at h ⊢
  by_cases h2:k=1∧0≤n∧n≤99
  ·rw[if_pos h2];obtain⟨rfl,a,b⟩:=h2;obtain⟨m,rfl⟩:=bI a;exact .back m (by omega)
  ·rw[if_neg h2] at h ⊢
   by_cases h3:k=2∧n=0
   ·rw[if_pos h3];obtain⟨rfl,rfl⟩:=h3;exact .short
   ·rw[if_neg h3] at h ⊢
    by_cases h4:k=3∧n=0
    ·rw[if_pos h4];obtain⟨rfl,rfl⟩:=h4;exact .end_
    ·rw[if_neg h4] at h;exact absurd rfl h
theorem wW.eq {k n:Int} {s:List UInt8} (h:wW k n s):ni k n=s:=by
 cases h with
 |ZP m hm=>unfold ni;rw[if_pos ⟨rfl,by omega,by omega⟩];rfl
 |back m hm=>unfold ni;rw[if_neg (by simp),if_pos ⟨rfl,by omega,by omega⟩];rfl
 |short=>rfl
 |end_=>rfl
theorem U0:∀n,n<100→readA (Mc++32::gZ n)=some (0,(n:Int)):=by decide+kernel
theorem NZ:∀n,n<100→readA (o8++32::gZ n)=some (1,(n:Int)):=by decide+kernel
theorem wW.read {k n:Int} {s:List UInt8} (h:wW k n s):readA s=some (k,n):=by
 cases h with
 |ZP m hm=>exact U0 m hm
 |back m hm=>exact NZ m hm
 |short=>rfl
 |end_=>rfl
theorem wW.ne {k n:Int} {s:List UInt8} (h:wW k n s):s≠[]:=by
 cases h<;>simp[Mc,o8,rX,endW]
theorem N9 {k n:Int} (h:ni k n≠[]):readA (ni k n)=some (k,n):=(UZ h).read
theorem x9 {p s:List UInt8} (h:p.isPrefixOf s=true):s=p++s.drop p.length:=by
 obtain⟨t,rfl⟩:=List.isPrefixOf_iff_prefix.1 h
 simp
theorem Gl {s:List UInt8} {k n:Int} (h:readA s=some (k,n)):wW k n s:=by
 unfold readA at h
 by_cases h1:s=rX
 ·rw[if_pos h1] at h;subst h1;simp only[Option.some.injEq,Prod.mk.injEq] at h;obtain⟨rfl,rfl⟩:=h;exact .short
 ·rw[if_neg h1] at h
  by_cases h2:s=endW
  ·rw[if_pos h2] at h;subst h2;simp only[Option.some.injEq,Prod.mk.injEq] at h;obtain⟨rfl,rfl⟩:=h;exact .end_
  ·rw[if_neg h2] at h
   by_cases h3:(Mc++[32]).isPrefixOf s=true
   ·rw[if_pos h3] at h;obtain⟨m,hm,e⟩:=Option.map_eq_some_iff.1 h;simp only[Prod.mk.injEq] at e;obtain⟨rfl,rfl⟩:=e;obtain⟨a,b⟩:=Dw hm
    have:=x9 h3
    have e:s=Mc++32::gZ m:=by rw[b];simpa[Mc] using this
    rw[e];exact .ZP m a
   ·rw[if_neg h3] at h
    by_cases h4:(o8++[32]).isPrefixOf s=true
    ·rw[if_pos h4] at h;obtain⟨m,hm,e⟩:=Option.map_eq_some_iff.1 h;simp only[Prod.mk.injEq] at e;obtain⟨rfl,rfl⟩:=e;obtain⟨a,b⟩:=Dw hm
     have:=x9 h4
     have e:s=o8++32::gZ m:=by rw[b];simpa[o8] using this
     rw[e];exact .back m a
    ·rw[if_neg h4] at h;cases h
theorem zN {s:List UInt8} {k n:Int} (h:readA s=some (k,n)):0≤k∧k≤3∧0≤n∧n≤99:=by
 cases Gl h<;>omega
def eX (sep:UInt8) (cur:List UInt8):List UInt8→List (List UInt8)
 | []=>[cur]
 |c::cs=>if c=sep then cur::eX sep [] cs else eX sep (cur++[c]) cs
theorem ny {sep:UInt8} {s:List UInt8} (h:sep∉s) (cur:List UInt8):eX sep cur s=[cur++s]:=by
 induction s generalizing cur with
 |nil=>simp[eX]
 |cons c cs ih=>
  simp only[List.mem_cons,not_or] at h;simp only[eX];rw[if_neg (fun e=>h.1 e.symm),ih h.2]
  simp
theorem nP {sep:UInt8} {s:List UInt8} (h:sep∉s) (cur t:List UInt8):eX sep cur (s++sep::t)=(cur++s)::eX sep [] t:=by
 induction s generalizing cur with
 |nil=>simp[eX]
 |cons c cs ih=>
  simp only[List.mem_cons,not_or] at h;simp only[List.cons_append,eX];rw[if_neg (fun e=>h.1 e.symm),ih h.2]
  simp
def fE (acc:Int):List UInt8→Int
 | []=>acc
 |c::cs=>if c.toNat<48∨57<c.toNat then -1 else fE (10*acc+((c.toNat:Int)-48)) cs
def jW (s:List UInt8):Int:=
 if s.length<1∨4<s.length∨1<s.length∧s.head? =some 48 then -1 else fE 0 s
theorem Gm:∀n,n<100→jW (gZ n)=n:=by decide+kernel
theorem Q8 {s:List UInt8} {acc:Int} (h:0≤acc): -1≤fE acc s∧fE acc s<(acc+1)*10^s.length:=by
 induction s generalizing acc with
 |nil=>simp[fE];omega
 |cons c cs ih=>
  simp only[fE];have hp:(0:Int)<10^(cs.length+1):=Int.pow_pos (by omega)
  split
  ·refine⟨by omega,?_⟩;have:(0:Int)<(acc+1)*10^(c::cs).length:=Int.mul_pos (by omega) hp
   omega
  ·rename_i hd
   have:=ih (acc:=10*acc+((c.toNat:Int)-48)) (by omega)
   refine⟨this.1,Int.lt_of_lt_of_le this.2 ?_⟩;have hq:(0:Int)≤10^cs.length:=Int.le_of_lt (Int.pow_pos (by omega))
   calc (10*acc+((c.toNat:Int)-48)+1)*10^cs.length≤((acc+1)*10)*10^cs.length:=Int.mul_le_mul_of_nonneg_right (by omega) hq
    _=(acc+1)*10^(c::cs).length:=by rw[bM,Int.pow_succ,Int.mul_assoc,Int.mul_comm 10]
theorem WY (s:List UInt8): -1≤jW s∧jW s<10000:=by
 unfold jW
 split
 ·omega
 ·rename_i h
  have:=Q8 (s:=s) (acc:=0) (by omega)
  refine⟨this.1,Int.lt_of_lt_of_le this.2 ?_⟩;rw[Int.zero_add,Int.one_mul];have h4:s.length=1∨s.length=2∨s.length=3∨s.length=4:=by omega
  rcases h4 with e | e | e | e<;>rw[e]<;>decide
def kN (s:List UInt8):List (Int×Int):=
 (2,0)::(3,0)::(match eX 32 [] s with | [_,w]=>[(0,jW w),(1,jW w)] | _=>[])
theorem Q9 {s:List UInt8} {k n:Int} (h:wW k n s):(k,n)∈kN s:=by
 cases h with
 |ZP m hm=>
  unfold kN
  rw[nP (by decide),ny (by have:∀m,m<100→(32:UInt8)∉gZ m:=by decide+kernel
                           exact this m hm)]
  simp[Gm m hm]
 |back m hm=>
  unfold kN
  rw[nP (by decide),ny (by have:∀m,m<100→(32:UInt8)∉gZ m:=by decide+kernel
                           exact this m hm)]
  simp[Gm m hm]
 |short=>unfold kN;simp
 |end_=>unfold kN;simp
def sQ (s:List UInt8):List (Int×Int)→Option (Int×Int)
 | []=>none
 |a::l=>if s≠[]∧ni a.1 a.2=s then some a else sQ s l
theorem Oa {s:List UInt8} {l:List (Int×Int)} {a:Int×Int} (h:sQ s l=some a):readA s=some a:=by
 induction l with
 |nil=>cases h
 |cons b l ih=>
  simp only[sQ] at h
  split at h
  ·rename_i hb
   injection h with h
   subst h
   have:=N9 (k:=b.1) (n:=b.2) (by rw[hb.2];exact hb.1)
   rw[hb.2] at this;exact this
  ·exact ih h
theorem Ob {s:List UInt8} {l:List (Int×Int)} (h:sQ s l=none) {a:Int×Int} (ha:a∈l) (hs:s≠[]):ni a.1 a.2≠s:=by
 induction l with
 |nil=>simp at ha
 |cons b l ih=>
  simp only[sQ] at h
  split at h
  ·cases h
  ·rename_i hb
   rcases List.mem_cons.1 ha with rfl | ha
   ·exact fun e=>hb ⟨hs,e⟩
   ·exact ih h ha
theorem Oc (s:List UInt8):sQ s (kN s)=readA s:=by
 cases h:sQ s (kN s) with
 |some a=>exact(Oa h).symm
 |none=>
  cases h2:readA s with
  |none=>rfl
  |some a=>
   obtain⟨k,n⟩:=a
   have:=Gl h2
   exact absurd this.eq (Ob h (Q9 this) this.ne)
def aes (aa:List (Int×Int)):List UInt8:=
 if aa.all (fun a=>ni a.1 a.2 != [])=true then aa.flatMap fun a=>ni a.1 a.2++[10] else []
def KN (cur:List UInt8):List UInt8→List (Int×Int)×Nat
 | []=>([],0)
 |c::cs=>
  if c=10 then
   match readA cur with
   |none=>([],0)
   |some a=>(a::(KN [] cs).1,cur.length+1+(KN [] cs).2)
  else KN (cur++[c]) cs
def iY (n:Nat):List UInt8:=if n<10 then [jQ n] else iY (n/10)++[jQ (n%10)]
termination_by n
theorem lD {n:Nat} (h:n<10):iY n=[jQ n]:=by rw[iY,if_pos h]
theorem pq {n:Nat} (h:¬n<10):iY n=iY (n/10)++[jQ (n%10)]:=by rw[iY,if_neg h]
theorem yc {n:Nat} (h:n<100):iY n=gZ n:=by
 unfold gZ
 by_cases h1:n<10
 ·rw[lD h1,if_pos h1]
 ·rw[pq h1,if_neg h1,lD (show n/10<10 by omega)];rfl
theorem pz (k:Nat):∀n,n<10^(k+1)→(iY n).length≤k+1:=by
 induction k with
 |zero=>intro n h;rw[lD (by simpa using h)];simp
 |succ k ih=>
  intro n h
  by_cases h1:n<10
  ·rw[lD h1];simp
  ·rw[pq h1]
   have:=ih (n/10) (by rw[Nat.pow_succ] at h;omega)
   simp;omega
open Go.ChangeShapes Go.WideShapes Go.ChangeAt Go.RowKit
theorem abV {x:ByteArray} {l:List UInt8} (h:x.data.toList=l):x=⟨l.toArray⟩:=by subst h;cases x;simp
theorem BD (l:List UInt8):(⟨l.toArray⟩:ByteArray).data.toList=l:=rfl
theorem vY (s p:ByteArray) (w:World):
  Calls Tryz.prog 108 #[.string s,.string p] w fun e w'=>e= .returned (.tuple #[.string ⟨(Lib.trimPrefix s.data.toList p.data.toList).toArray⟩,.bool (Lib.hasPrefix s.data.toList p.data.toList)])∧w=w':=by
 go_enter Tryz.func108,Tryz.ntmps108;go_wp2
 ·have h2:(!((s.extract 0 p.size).toList == p.toList))=true:=by assumption
  have h3:(decide (p.size≤s.size)&&((s.extract 0 p.size).toList == p.toList))=false:=by
   have:((s.extract 0 p.size).toList == p.toList)=false:=by simpa using h2
   rw[this]
   simp
  go_ret2;refine⟨?_,rfl⟩;rw[Lib.trimPrefix_miss s p h3,←Lib.hasPrefix_raw,h3]
  rfl
 ·have h1:p.size≤s.size:=by assumption
  have h2:(!((s.extract 0 p.size).toList == p.toList))=false:=by assumption
  have h2':((s.extract 0 p.size).toList == p.toList)=true:=by simpa using h2
  go_ret2;refine⟨?_,rfl⟩;rw[Lib.trimPrefix_hit s p h1 h2',←Lib.hasPrefix_raw,h2',decide_eq_true h1]
  rfl
 ·have h1:¬p.size≤s.size:=by assumption
  have h3:(decide (p.size≤s.size)&&((s.extract 0 p.size).toList == p.toList))=false:=by simp[h1]
  go_ret2;refine⟨?_,rfl⟩;rw[Lib.trimPrefix_miss s p h3,←Lib.hasPrefix_raw,h3]
  rfl
theorem wX (s:ByteArray) (c:Int) (w:World):
  Calls Tryz.prog 201 #[.string s,.int .u8 c] w fun e w'=>e= .returned (.int .i64 (Lib.indexByte s.data.toList c.toNat.toUInt8))∧w=w':=by
 go_enter Tryz.func201,Tryz.ntmps201;go_wp2;rw[run_callFunc_extern Tryz.func217 (by kernel_rfl) (by kernel_rfl) (by kernel_rfl) (e:=Extern.BytealgIndexByte.indexByte) (by kernel_rfl),Lib.run_indexByteString];simp only[Result.andThen];rw[Oper.upon_value];go_wp2;go_ret;exact⟨rfl,rfl⟩
theorem uK (s:ByteArray) (c:UInt8) (w:World):
  Calls Tryz.prog 182 #[.string s,.string ⟨#[c]⟩] w fun e w'=>e= .returned (.int .i64 (Lib.indexByte s.data.toList c))∧w=w':=by
 go_enter Tryz.func182,Tryz.ntmps182
 go_wp2_with (go_at_call 201;refine(wX _ _ _).mono ?_;rintro e w' ⟨rfl,rfl⟩)
 ·have h:([c] == s.toList)=true:=by assumption
  go_ret;refine⟨?_,rfl⟩;have e:s.data.toList=[c]:=by rw[←Lib.toList_data];exact(beq_iff_eq.1 h).symm
  rw[e];exact aG (by simp[Lib.indexByte])
 ·go_ret;exact⟨rfl,rfl⟩
theorem indexByte_none {l:List UInt8} {c:UInt8} (h:c∉l):Lib.indexByte l c= -1:=by
 induction l with
 |nil=>rfl
 |cons a r ih=>
  simp only[List.mem_cons,not_or] at h;have h1:(a == c)=false:=by rw[cO];intro e;exact h.1 (by simpa using(beq_iff_eq.1 e).symm)
  unfold Lib.indexByte
  rw[h1,ih h.2];rfl
theorem yh {l r:List UInt8} {c:UInt8} (h:c∉l):Lib.indexByte (l++c::r) c=l.length:=by
 induction l with
 |nil=>simp[Lib.indexByte]
 |cons a t ih=>
  simp only[List.mem_cons,not_or] at h;have h1:(a == c)=false:=by rw[cO];intro e;exact h.1 (by simpa using(beq_iff_eq.1 e).symm)
  rw[List.cons_append]
  unfold Lib.indexByte
  rw[h1,ih h.2];have h2:(((t.length:Nat):Int) == -1)=false:=by rw[cO];intro e;have:=beq_iff_eq.1 e;omega
  simp[h2]
theorem ES (s:ByteArray) (c:UInt8) (w:World) (h:c∉s.data.toList):
  Calls Tryz.prog 150 #[.string s,.string ⟨#[c]⟩] w fun e w'=>e= .returned (.tuple #[.string s,.string .empty,.bool false])∧∃n,w'=w.drewN n:=by
 have HI:=af (indexByte_none h);clear h;go_enter Tryz.func150,Tryz.ntmps150
 go_wp2_with fail
 refine(uK s c _).mono ?_;rintro e w' ⟨rfl,rfl⟩;rw[HI.out];go_wp2;go_ret3;exact⟨rfl,0,rfl⟩
theorem KL (s:ByteArray) (c:UInt8) (a b:List UInt8) (w:World) (h:c∉a) (hs:s.data.toList=a++c::b) (hm:s.size≤9223372036854775807):
  Calls Tryz.prog 150 #[.string s,.string ⟨#[c]⟩] w fun e w'=>e= .returned (.tuple #[.string ⟨a.toArray⟩,.string ⟨b.toArray⟩,.bool true])∧∃n,w'=w.drewN n:=by
 have HI:Hid (Lib.indexByte s.data.toList c=(a.length:Int)):=af (by rw[hs];exact yh h);have hsz:s.size=a.length+1+b.length:=by rw[Lib.size_eq,hs];simp;omega
 have e1:s.extract 0 a.length=⟨a.toArray⟩:=by rw[Lib.extract_eq,hs];simp
 have e2:s.extract (a.length+1) s.size=⟨b.toArray⟩:=by
  rw[Lib.extract_eq,hsz,hs]
  congr 2
  rw[show a++c::b=(a++[c])++b by simp,List.drop_append_of_le_length (by simp),List.drop_of_length_le (by simp),List.nil_append];exact dJ (by omega)
 have E1:=af e1;have E2:=af e2;have c1:(0:Int)≤(a.length:Int):=by omega
 have c2:(a.length:Int)≤(s.size:Int):=by omega
 have c3:(0:Int)≤(a.length:Int)+1:=by omega
 have c4:(a.length:Int)+1≤(s.size:Int):=by omega
 clear h hs e1 e2 hsz;obtain⟨k,hk⟩:∃k,a.length=k:=⟨_,rfl⟩;rw[hk] at HI E1 E2 c1 c2 c3 c4;clear hk;go_enter Tryz.func150,Tryz.ntmps150
 go_wp2_with fail
 refine(uK s c _).mono ?_;rintro e w' ⟨rfl,rfl⟩;rw[HI.out];go_wp2
 go_region
 all_goals (go_wp2;go_ret3;exact⟨by rw[←E1.out,←E2.out];rfl,1,rfl⟩)
theorem UY (s:ByteArray) (c:UInt8) (w:World) (h:c∉s.data.toList):
  Calls Tryz.prog 93 #[.string s,.string ⟨#[c]⟩] w fun e w'=>e= .returned (.tuple #[.string s,.string .empty,.bool false])∧∃n,w'=w.drewN n:=by
 go_enter Tryz.func93,Tryz.ntmps93
 go_wp2_with fail
 refine(ES s c _ h).mono ?_;rintro e w' ⟨rfl,n,rfl⟩;go_wp2;go_ret3;exact⟨rfl,n,rfl⟩
theorem NY (s:ByteArray) (c:UInt8) (a b:List UInt8) (w:World) (h:c∉a) (hs:s.data.toList=a++c::b) (hm:s.size≤9223372036854775807):
  Calls Tryz.prog 93 #[.string s,.string ⟨#[c]⟩] w fun e w'=>e= .returned (.tuple #[.string ⟨a.toArray⟩,.string ⟨b.toArray⟩,.bool true])∧∃n,w'=w.drewN n:=by
 have YA:=af hs;clear hs;go_enter Tryz.func93,Tryz.ntmps93
 go_wp2_with fail
 refine(KL s c a b _ h YA.out hm).mono ?_;rintro e w' ⟨rfl,n,rfl⟩;go_wp2;go_ret3;exact⟨rfl,n,rfl⟩
theorem small_ba (x:ByteArray) (l:List UInt8) (h:x.data.toList=l):x=⟨l.toArray⟩:=by subst h;cases x;simp
theorem Dx {i:Nat} (hi:i<100):Lib.decDigits i=gZ i:=by
 by_cases h:i<10
 ·rw[←Lib.digits36_piece h];have:∀k,k<10→(Lib.digits36.data.toList.drop k).take (k+1-k)=gZ k:=by decide+kernel
  exact this i h
 ·rw[←Lib.smalls_piece h hi];have:∀k,k<100→10≤k→(Lib.smalls.data.toList.drop (k*2)).take (k*2+2-k*2)=gZ k:=by decide+kernel
  exact this i hi (by omega)
theorem Rf (i:Nat) (h:i<100) (w:World):
  Calls Tryz.prog 205 #[.int .i64 i] w fun e w'=>e= .returned (.string ⟨(gZ i).toArray⟩)∧w=w':=by
 rw[←Dx h];go_enter Tryz.func205,Tryz.ntmps205
 go_name_bytes_deep 45 SM hSM
 have eSM:SM=Lib.smalls:=by rw[←hSM];decide+kernel
 subst eSM;clear hSM
 go_name_bytes_deep 30 DG hDG
 have eDG:DG=Lib.digits36:=by rw[←hDG];decide+kernel
 subst eDG;clear hDG
 by_cases h10:i<10
 ·have hsl:∀w,(Instr.slice 9 (.string Lib.digits36) (some (.int .i64 (i:Int))) (some (.int .i64 ((i:Int)+1))) none).run Tryz.prog w= .ok (.string (Lib.digits36.extract i (i+1))) w:=fun w=>by
   rw[run_slice_string w 9 Lib.digits36 .i64 .i64 _ _ Tryz.underlying9 (by omega) (by omega) (by rw[Lib.digits36_size];omega),show((i:Int)).toNat=i by omega,show((i:Int)+1).toNat=i+1 by omega]
  go_wp2;go_ret;refine⟨?_,rfl⟩
  show Ending.returned (Value.string (Lib.digits36.extract i (i+1)))=_
  rw[small_ba (Lib.digits36.extract i (i+1)) (Lib.decDigits i) (by rw[Lib.extract_data];exact Lib.digits36_piece h10)]
 ·have hsl:∀w,(Instr.slice 9 (.string Lib.smalls) (some (.int .i64 ((i:Int)*2))) (some (.int .i64 ((i:Int)*2+2))) none).run Tryz.prog w= .ok (.string (Lib.smalls.extract (i*2) (i*2+2))) w:=fun w=>by
   rw[run_slice_string w 9 Lib.smalls .i64 .i64 _ _ Tryz.underlying9 (by omega) (by omega) (by rw[Lib.smalls_size];omega),show((i:Int)*2).toNat=i*2 by omega,show((i:Int)*2+2).toNat=i*2+2 by omega]
  go_wp2;go_ret;refine⟨?_,rfl⟩
  show Ending.returned (Value.string (Lib.smalls.extract (i*2) (i*2+2)))=_
  rw[small_ba (Lib.smalls.extract (i*2) (i*2+2)) (Lib.decDigits i) (by rw[Lib.extract_data];exact Lib.smalls_piece h10 h)]
theorem Ba (i:Nat) (h:i<100) (w:World):
  Calls Tryz.prog 183 #[.int .i64 i,.int .i64 10] w fun e w'=>e= .returned (.string ⟨(gZ i).toArray⟩)∧w=w':=by
 go_enter Tryz.func183,Tryz.ntmps183
 go_wp2_with (go_at_call 205;refine(Rf i h _).mono ?_;rintro e w' ⟨rfl,rfl⟩)
 refine bodyPost_ret (v:=.string ⟨(gZ i).toArray⟩) (by simp[results,Tryz.results183,go_sem]) rfl ⟨rfl,rfl⟩
theorem IK (i:Nat) (h:i<100) (w:World):
  Calls Tryz.prog 151 #[.int .i64 i] w fun e w'=>e= .returned (.string ⟨(gZ i).toArray⟩)∧w=w':=by
 go_enter Tryz.func151,Tryz.ntmps151
 go_wp2_with fail
 refine(Ba i h _).mono ?_;rintro e w' ⟨rfl,rfl⟩;go_wp2;go_ret;exact⟨rfl,rfl⟩
theorem pG (i:Nat) (h:i<100) (w:World):
  Calls Tryz.prog 95 #[.int .i64 i] w fun e w'=>e= .returned (.string ⟨(gZ i).toArray⟩)∧w=w':=by
 go_enter Tryz.func95,Tryz.ntmps95
 go_wp2_with fail
 refine(IK i h _).mono ?_;rintro e w' ⟨rfl,rfl⟩;go_wp2;go_ret;exact⟨rfl,rfl⟩
end Go.Proofs.YtkmcengmglgdeaaGreatDoor
