/- Joined texts: RightP, RightI. -/
import Derived.Test.YtkmcengmglgdeaaGreatDoorSTaskTS
import Derived.Test.YtkmcengmglgdeaaGreatDoorSBuilder
import Derived.Test.YtkmcengmglgdeaaGreatDoorSClosI
import Derived.Test.YtkmcengmglgdeaaGreatDoorSSumW
import Derived.Test.YtkmcengmglgdeaaGreatDoorSCondW
import Derived.Test.YtkmcengmglgdeaaGreatDoorSActsH
import Derived.Test.YtkmcengmglgdeaaGreatDoorSActR
import Derived.Test.YtkmcengmglgdeaaGreatDoorSDoI

namespace Go.Proofs.YtkmcengmglgdeaaGreatDoor
set_option linter.unusedVariables false
set_option linter.unusedSimpArgs false
set_option maxRecDepth 100000
set_option maxHeartbeats 8000000
theorem ZU {n:Nat} (h:2≤n):(100:Int)≤10^n:=by
 obtain⟨j,rfl⟩:∃j,n=j+2:=⟨n-2,by omega⟩;rw[Int.pow_succ,Int.pow_succ];have:(0:Int)<10^j:=Int.pow_pos (by omega)
 omega
theorem ZV {n:Nat} (h:n≤2):(10:Int)^n≤100:=by
 obtain rfl | rfl | rfl:n=0∨n=1∨n=2:=by omega
 all_goals decide
theorem IX (c:UInt8) (cur s:List UInt8):eX c cur s≠[]:=by
 induction s generalizing cur with
 |nil=>simp[eX]
 |cons x s ih=>
  simp only[eX]
  split
  ·simp
  ·exact ih _
theorem DN {c:UInt8} {l:List UInt8} (h:c∈l):∃a b,l=a++c::b∧c∉a:=by
 induction l with
 |nil=>cases h
 |cons x l ih=>
  by_cases e:x=c
  ·exact⟨[],l,by rw[e];rfl,by simp⟩
  ·obtain⟨a,b,rfl,ha⟩:=ih (by simpa[Ne.symm e] using h);exact⟨x::a,b,rfl,by simp[Ne.symm e,ha]⟩
theorem zA (s:List UInt8):∀acc,fE acc s=(lF acc s).getD (-1):=by
 induction s with
 |nil=>intro acc;rfl
 |cons c s ih=>
  intro acc;simp only[fE,lF]
  split
  ·rfl
  ·rw[ih,Int.mul_comm]
theorem Ru (s:List UInt8):jR s=(rdNum 10 s).getD (-1):=by
 unfold jR rdNum
 by_cases h:s.length<1∨10<s.length∨(1<s.length∧s.head? =some 48)
 ·rw[if_pos h,if_pos]
  ·rfl
  ·rcases h with h | h | ⟨h1,h2⟩
   ·left;exact List.eq_nil_of_length_eq_zero (by omega)
   ·right;left;omega
   ·right;right;exact⟨h2,h1⟩
 ·rw[if_neg h,if_neg]
  ·exact zA s 0
  ·rintro(h' | h' | ⟨h1,h2⟩)
   ·subst h';exact h (.inl (by simp))
   ·exact h (.inr (.inl (by omega)))
   ·exact h (.inr (.inr ⟨h2,h1⟩))
theorem Ou {s:List UInt8} (h:(32:UInt8)∈s):∀acc,lF acc s=none:=by
 induction s with
 |nil=>cases h
 |cons c s ih=>
  intro acc;simp only[lF]
  rcases List.mem_cons.1 h with e | e
  ·rw[←e,if_pos (by decide)]
  ·split
   ·rfl
   ·exact ih e _
theorem KY {d:Int} {s:List UInt8} (h:(32:UInt8)∈s):rdNum d s=none:=by
 unfold rdNum
 split
 ·rfl
 ·exact Ou h 0
theorem Ov {s:List UInt8} (h:(32:UInt8)∈s):sW s=none:=by
 cases e:sW s with
 |none=>rfl
 |some n=>
  obtain⟨h1,h2⟩:=qQ e;exact absurd (h2▸h) (Rw n h1)
theorem YB {s:List UInt8}:∀acc,0≤acc→∀v,lF acc s=some v→0≤v:=by
 induction s with
 |nil=>intro acc h v e;simp only[lF] at e;injection e with e;omega
 |cons c s ih=>
  intro acc h v e;simp only[lF] at e
  split at e
  ·cases e
  ·exact ih _ (by omega) v e
theorem KZ {s:List UInt8}:∀acc,0≤acc→∀v,lF acc s=some v→acc*10^s.length≤v∧v<(acc+1)*10^s.length:=by
 induction s with
 |nil=>intro acc h v e;simp only[lF] at e;injection e with e;simp;omega
 |cons c s ih=>
  intro acc h v e;simp only[lF] at e
  split at e
  ·cases e
  ·obtain⟨h1,h2⟩:=ih _ (by omega) v e;have hp:(0:Int)<10^s.length:=Int.pow_pos (by omega);rw[bM,Int.pow_succ]
   generalize (10:Int)^s.length=q at*
   have hc:(acc*10+((c.toNat:Int)-48))*q=acc*(q*10)+((c.toNat:Int)-48)*q:=by
    rw[Int.add_mul,Int.mul_assoc,Int.mul_comm 10 q]
   have hd:(acc*10+((c.toNat:Int)-48)+1)*q=acc*(q*10)+((c.toNat:Int)-47)*q:=by
    rw[show acc*10+((c.toNat:Int)-48)+1=acc*10+((c.toNat:Int)-47) by omega,Int.add_mul,Int.mul_assoc,Int.mul_comm 10 q]
   have h0:0≤((c.toNat:Int)-48)*q:=Int.mul_nonneg (by omega) (by omega);have h9:((c.toNat:Int)-47)*q≤10*q:=Int.mul_le_mul_of_nonneg_right (by omega) (by omega);have he:(acc+1)*(q*10)=acc*(q*10)+10*q:=by rw[Int.add_mul,Int.one_mul,Int.mul_comm q 10]
   omega
theorem KW (s:List UInt8):(∃v,rdNum 2 s=some v∧jW s=v∧0≤v∧v<100)∨rdNum 2 s=none∧¬(0≤jW s∧jW s<6):=by
 unfold rdNum jW
 by_cases h:s.length<1∨4<s.length∨1<s.length∧s.head? =some 48
 ·right
  rw[if_pos h];refine⟨?_,by omega⟩
  split
  ·rfl
  ·rename_i h'
   exfalso
   apply h'
   rcases h with h | h | ⟨h1,h2⟩
   ·left;exact List.eq_nil_of_length_eq_zero (by omega)
   ·right;left;omega
   ·right;right;exact⟨h2,h1⟩
 ·rw[if_neg h]
  by_cases h2:(2:Int)<(s.length:Int)
  ·right
   rw[if_pos (.inr (.inl h2))];refine⟨rfl,?_⟩;rw[zA]
   match s,h,h2 with
   |c::s,h,h2=>
    simp only[lF]
    split
    ·simp
    ·rename_i hc
     cases e:lF (0*10+((c.toNat:Int)-48)) s with
     |none=>simp
     |some v=>
      have hne:c.toNat≠48:=fun e48=>h (.inr (.inr ⟨by simp at h2 ⊢;omega,by simp only[List.head?_cons];exact congrArg some (UInt8.toNat_inj.1 (by rw[e48];rfl))⟩))
      obtain⟨b1,-⟩:=KZ _ (by omega) v e;simp only[Option.getD_some];have hl:2≤s.length:=by simp at h2;omega
      have hp:(100:Int)≤10^s.length:=ZU hl;have hq:1*(10:Int)^s.length≤(0*10+((c.toNat:Int)-48))*10^s.length:=Int.mul_le_mul_of_nonneg_right (by omega) (by omega)
      omega
  ·have hc:¬(s=[]∨(2:Int)<(s.length:Int)∨s.head? =some 48∧1<s.length):=by
    rintro(h' | h' | ⟨h1,h2'⟩)
    ·subst h';exact h (.inl (by simp))
    ·exact h2 h'
    ·exact h (.inr (.inr ⟨h2',h1⟩))
   rw[if_neg hc,zA]
   cases e:lF 0 s with
   |none=>right;exact⟨rfl,by simp⟩
   |some v=>
    left
    obtain⟨b1,b2⟩:=KZ 0 (by omega) v e;refine⟨v,rfl,rfl,by omega,?_⟩;have hl:s.length≤2:=by omega
    have hp:(10:Int)^s.length≤100:=ZV hl
    omega
def readAll:List (List UInt8)→Option (List Int)
 | []=>some []
 |w::ws=>(rdNum 2 w).bind fun v=>(readAll ws).map fun p=>v::p
def uO (ws:List (List UInt8)):Option (List Int):=if ws.length≤40 then readAll ws else none
theorem Xb {t:aB} {p:List Int} {x:Int} (h6:t.ax.length≤6) (hx:x∈p) (h:¬(0≤x∧x<6)):iL t p=false:=by
 have:aF t t.start p= -1:=by
  unfold aF
  split
  ·have hr:∀(p:List Int) (s:Nat),x∈p→kT t s p=none:=by
    intro p
    induction p with
    |nil=>intro s hx;cases hx
    |cons k p ih=>
     intro s hx;simp only[kT]
     cases hk:lK t s k with
     |none=>rfl
     |some s1=>
      rcases List.mem_cons.1 hx with rfl | hx
      ·unfold lK at hk
       rw[if_neg (by omega)] at hk
       cases hk
      ·exact ih s1 hx
   rw[hr p _ hx];rfl
  ·rfl
 unfold iL
 rw[this];rfl
theorem Rx {t:aB} {p:List Int} (h:¬p.length≤40):iL t p=false:=by
 unfold iL aF
 rw[if_neg (fun hh=>h hh.2.2)];rfl
theorem IY (ws:List (List UInt8)):(∃p,readAll ws=some p∧ws.map jW=p∧∀x∈p,0≤x∧x<100)∨readAll ws=none∧∃x∈ws.map jW,¬(0≤x∧x<6):=by
 induction ws with
 |nil=>exact .inl ⟨[],rfl,rfl,by simp⟩
 |cons w ws ih=>
  rcases KW w with⟨v,h1,h2,h3,h4⟩ | ⟨h1,h2⟩
  ·rcases ih with⟨p,i1,i2,i3⟩ | ⟨i1,x,i2,i3⟩
   ·left
    refine⟨v::p,by simp[readAll,h1,i1],by simp[h2,i2],fun x hx=>?_⟩
    rcases List.mem_cons.1 hx with rfl | hx
    ·exact⟨h3,h4⟩
    ·exact i3 x hx
   ·right
    exact⟨by simp[readAll,h1,i1],x,List.mem_cons_of_mem _ i2,i3⟩
  ·right
   exact⟨by simp[readAll,h1],jW w,by simp,h2⟩
theorem Ry {t:aB} (h6:t.ax.length≤6) (ws:List (List UInt8)):iL t (ws.map jW)=(match uO ws with | some p=>iL t p | none=>false):=by
 unfold uO
 by_cases hl:ws.length≤40
 ·rw[if_pos hl]
  rcases IY ws with⟨p,i1,i2,-⟩ | ⟨i1,x,i2,i3⟩
  ·rw[i1,i2]
  ·rw[i1,Xb h6 i2 i3]
 ·rw[if_neg hl,Rx (by simpa using hl)]
theorem IZ (ws:List (List UInt8)) (w:List UInt8):readAll (ws++[w])=(readAll ws).bind fun p=>(rdNum 2 w).map fun v=>p++[v]:=by
 induction ws with
 |nil=>cases h:rdNum 2 w<;>simp[readAll,h]
 |cons x ws ih=>
  simp only[List.cons_append,readAll,ih]
  cases rdNum 2 x with
  |none=>rfl
  |some v=>
   cases readAll ws with
   |none=>rfl
   |some p=>cases rdNum 2 w<;>rfl
theorem IU {ws:List (List UInt8)} {k:Nat} {w:List UInt8} (h:ws[k]? =some w):readAll (ws.take (k+1))=(readAll (ws.take k)).bind fun p=>(rdNum 2 w).map fun v=>p++[v]:=by
 rw[List.take_add_one,h];exact IZ _ _
theorem KU {ws:List (List UInt8)} {k:Nat} (h:readAll (ws.take k)=none):readAll ws=none:=by
 rw[←List.take_append_drop k ws]
 generalize ws.take k=a at h
 generalize ws.drop k=b
 induction a with
 |nil=>simp[readAll] at h
 |cons x a ih=>
  simp only[List.cons_append,readAll] at h ⊢
  cases h1:rdNum 2 x with
  |none=>rfl
  |some v=>
   rw[h1] at h
   cases h2:readAll a with
   |none=>rw[ih h2];rfl
   |some p=>rw[h2] at h;cases h
theorem DR {t:aB} {s:List UInt8} {ws:List (List UInt8)} (h6:t.ax.length≤6) (h:eX 32 [] s=kP::ws):bT t s=(match uO ws with | some p=>if iL t p then 1 else -1 | none=>-1):=by
 unfold bT
 rw[h];simp only[if_true];rw[Ry h6]
 cases uO ws<;>rfl
theorem IW {t:aB} {s b:List UInt8} (h:s=ji++32::b):bT t s=(match rdNum 10 b with | some z=>if dQ t z then 0 else -1 | none=>-1):=by
 subst h
 unfold bT
 rw[nP (by decide),List.nil_append]
 simp only
 rw[if_neg (by decide),if_pos trivial]
 by_cases hb:(32:UInt8)∈b
 ·rw[KY hb];obtain⟨a,c,rfl,ha⟩:=DN hb;rw[nP ha];have:eX 32 [] c≠[]:=IX 32 [] c
  cases hc:eX 32 [] c with
  |nil=>exact absurd hc this
  |cons x l=>rfl
 ·rw[ny hb,List.nil_append]
  simp only
  rw[Ru]
  cases rdNum 10 b with
  |some z=>rfl
  |none=>exact if_neg (by rw[show(none:Option Int).getD (-1)= -1 from rfl,su (by omega)];simp)
theorem Rt {t:aB} {s b:List UInt8} (h:s=sumW++32::b):bT t s=(match sW b with | some f=>if jV t f then 0 else -1 | none=>-1):=by
 subst h
 unfold bT
 rw[nP (by decide),List.nil_append]
 simp only
 rw[if_neg (by decide),if_neg (by decide),if_pos trivial]
 by_cases hb:(32:UInt8)∈b
 ·rw[Ov hb];obtain⟨a,c,rfl,ha⟩:=DN hb;rw[nP ha];have:eX 32 [] c≠[]:=IX 32 [] c
  cases hc:eX 32 [] c with
  |nil=>exact absurd hc this
  |cons x l=>rfl
 ·rw[ny hb,List.nil_append];rfl
theorem Am {t:aB} {s w:List UInt8} {ws:List (List UInt8)} (h:eX 32 [] s=w::ws) (h1:w≠kP) (h2:w≠ji∨ws=[]) (h3:w≠sumW∨ws=[]):bT t s= -1:=by
 unfold bT
 rw[h]
 simp only
 rw[if_neg h1]
 by_cases hc:w=ji
 ·rw[if_pos hc]
  rcases h2 with h2 | rfl
  ·exact absurd hc h2
  ·rfl
 ·rw[if_neg hc]
  by_cases hs:w=sumW
  ·rw[if_pos hs]
   rcases h3 with h3 | rfl
   ·exact absurd hs h3
   ·rfl
  ·rw[if_neg hs]
open Go.ChangeShapes Go.WideShapes Go.ChangeAt Go.RowKit
theorem KT (s:ByteArray) (w:World):
  Calls Tryz.prog 168 #[.string s,.bool false] w (fZ (some []) w):=by
 go_enter Tryz.func168,Tryz.ntmps168;go_wp2;exact bodyPost_ret (v:=.tuple #[.slice none 0 0,.bool true]) (by simp[results,Tryz.results168,go_sem]) rfl (fZ.yes rfl (iE _ _ (ai _ _)))
theorem IQ (s:ByteArray) (w:World) (hs:s.size<4294967281):
  Calls Tryz.prog 168 #[.string s,.bool true] w (fZ (uO (eX 32 [] s.data.toList)) w):=by
 have hsp:=U5 s w hs;have hcs:=uM 32 s.data.toList [];have hsl:s.data.toList.length=s.size:=(Lib.size_eq s).symm;obtain⟨ws,hws⟩:∃ws,eX 32 [] s.data.toList=ws:=⟨_,rfl⟩;rw[hws] at hsp hcs ⊢
 have hpc:∀l∈ws,l.length≤4294967281:=fun l hl=>by have:=hcs l hl;simp only[List.length_nil] at this;omega
 obtain⟨cs,hcd⟩:∃cs,(ws.map fun l=>Value.string ⟨l.toArray⟩).toArray=cs:=⟨_,rfl⟩;obtain⟨n,hn⟩:∃n,ws.length=n:=⟨_,rfl⟩;rw[hcd,hn] at hsp
 have hn2:n≤4294967290:=by
  have:=Dy 32 s.data.toList []
  rw[hws,hn,hsl] at this
  omega
 have HAT:∀(k:Nat) (l:List UInt8),ws[k]? =some l→cs[k]? =some (Value.string ⟨l.toArray⟩):=fun k l h=>by rw[←hcd];simp[h]
 have Me:=af hsp;have HPC:=af hpc;have HCS:=af HAT;have HN:=af hn;clear hsp hpc HAT hws hcs hsl hs hcd hn;go_enter Tryz.func168,Tryz.ntmps168
 go_wp2_with fail
 refine Me.out.mono ?_;rintro e w1 ⟨rfl,rfl⟩;have bG:=af ((St.refl w).alloc cs 9)
 by_cases Qk:(40:Int)<(n:Int)
 ·have HP:Bx (uO ws=none):=Bx.mk (by unfold uO;rw[if_neg (by rw[HN.out];omega)]);go_wp2;exact bodyPost_ret (v:=.tuple #[.slice none 0 0,.bool false]) (by simp[results,Tryz.results168,go_sem]) rfl (fZ.no HP.out bG.out.below)
 ·have kY:n≤40:=by omega
  have HP:Bx (uO ws=readAll ws):=Bx.mk (by unfold uO;rw[if_pos (by rw[HN.out];omega)]);have HS2:Hid (St w (w.alloc (.cells cs 9)) [ah w.heap.size 9 cs,aA (.slice none 0 0) []]):=af (bG.out.call (iE _ _ (ai _ _)));go_wp2
  go_loopw [21,7] (fun i v wr=>∃(k:Nat) (x:Value) (ys:List Int),k≤n∧i= .int .i64 k∧x=v∧ys.length=k∧Bx (readAll (ws.take k)=some ys)∧St w wr [ah w.heap.size 9 cs,aA x ys]) (fun i _ _=>n-(intOf i).toNat)
  case atStart=>exact⟨0,_,[],by omega,rfl,rfl,rfl,Bx.mk rfl,HS2.out⟩
  case round=>
   clear HS2 bG;obtain⟨k,x,ys,hk,rfl,rfl,hyl,HM,S⟩:=hrel;have HS:=af S;clear S
   by_cases hlt:k<n
   ·obtain⟨l,hl⟩:∃l,ws[k]? =some l:=⟨ws[k]'(by rw[HN.out];exact hlt),bD _⟩;have r0:wr.cell? ⟨w.heap.size,k,none⟩=some (.string ⟨l.toArray⟩):=(HS.out.cells 0 rfl k).trans (HCS.out k l hl)
    have hll:(⟨l.toArray⟩:ByteArray).size≤9223372036854775807:=by
     have:=HPC.out l (bU hl)
     show l.toArray.size≤_
     rw[List.size_toArray];omega
    have HLK:=af hl;have hra:=IU hl;rw[HM.out] at hra;have hrd:=mO ⟨l.toArray⟩ 2 wr (by decide) hll;rw[show(⟨l.toArray⟩:ByteArray).data.toList=l from rfl] at hrd;obtain⟨o,ho⟩:∃o,rdNum 2 l=o:=⟨_,rfl⟩;rw[ho] at hra hrd;have AZ:=af hrd;have HO:=Bx.mk ho;have HRA:=Bx.mk hra;clear hrd hra ho hl hll
    go_wp2_with fail
    refine AZ.out.mono ?_;rintro e w3 ⟨he,rfl⟩
    unfold UW at he
    subst he
    cases o with
    |none=>
     have HNO:Bx (uO ws=none):=Bx.mk (by rw[HP.out];exact KU (k:=k+1) (by rw[HRA.out];rfl));simp only[Option.getD_none,Option.isSome_none];go_wp2;exact bodyPost_ret (v:=.tuple #[.slice none 0 0,.bool false]) (by simp[results,Tryz.results168,go_sem]) rfl (fZ.no HNO.out HS.out.below)
    |some z=>
     have hz:0≤z∧z<100:=by
      rcases KW l with⟨v,h1,h2,h3,h4⟩ | ⟨h1,h2⟩
      ·rw[HO.out] at h1;injection h1 with h1;subst h1;exact⟨h3,h4⟩
      ·rw[HO.out] at h1;cases h1
     have gY:Bx (readAll (ws.take (k+1))=some (ys++[z])):=Bx.mk (by rw[HRA.out];rfl);simp only[Option.getD_some,Option.isSome_some];have qy:=af (HS.out.rU 1 rfl)
     have QG:Hid (∀v3 w3',w3'.ownsRow 0 3 1 v3 (ys.length+1) (ints ys++[Value.int .i64 z])→(wr.alloc (.cells #[.int .i64 z] 3)).grownBy w3' x.ownBlock→(v3.ownBlock=x.ownBlock∨v3.ownBlock=some (wr.alloc (.cells #[.int .i64 z] 3)).heap.size)→
       St w w3' [ah w.heap.size 9 cs,aA v3 (ys++[z])]):=
      af fun v3 w3' h1 h2 h3=>St.vP (v:=x) (xs:=ys) (ys:=[z]) ((HS.out.alloc #[.int .i64 z] 3).pick [0,1] (by decide) rfl rfl) 1 rfl rfl h1 (by intro y hy;simp at hy;subst hy;exact dU (by omega)) h2 h3
     go_wp2_with (at_builtin;refine dX jv rfl _ _ rfl 0 x ys.length (ints ys) rfl (qy.out.alloc _) _ _ 1 1 [.int .i64 z] rfl (bQ.new wr [.int .i64 z] 3 1 1 rfl (by unfold maxLen;omega)) (by simp[Value.oneCell']) (by omega) (by omega) (Nat.zero_le _) ?_;intro v4 w4 hown4 hg4 EM;have oJ:=af (QG.out v4 w4 hown4 hg4 EM))
     go_wp2
     go_roundw
     case rel=>exact⟨k+1,_,ys++[z],by omega,by go_num,rfl,by simp;omega,gY,oJ.out⟩
     case measure=>simp[intOf];omega
   ·obtain rfl:k=n:=by omega
    have HY:Bx (uO ws=some ys):=Bx.mk (by rw[HP.out,←HM.out,dJ (by rw[HN.out];omega)]);go_wp2;exact bodyPost_ret (v:=.tuple #[_,.bool true]) (by simp[results,Tryz.results168,go_sem]) rfl (fZ.yes HY.out (HS.out.pick [1] (by decide) rfl rfl))
theorem PK (c:UInt8) (a b:List UInt8) (s:ByteArray) (h:s.data.toList=a++c::b):b.length+1≤s.size:=by
 rw[Lib.size_eq s,h];simp
def PL (t:aB):Option (List Int)→Int
 |some p=>if iL t p then 1 else -1
 |none=>-1
def wZ (s k r:ByteArray) (m:Bool):Prop:=∀w,Calls Tryz.prog 93 #[.string s,.string ⟨#[32]⟩] w fun e w'=>e= .returned (.tuple #[.string k,.string r,.bool m])∧∃n,w'=w.drewN n
theorem Ak (v:Value) (t:aB) (s r:ByteArray) (m:Bool) (o:Option (List Int)) (w:World) (h:nI w w.heap.size v t) (hok:aK t=true)
  (hc:wZ s ⟨#[112,108,97,110]⟩ r m) (hp:∀w,Calls Tryz.prog 168 #[.string r,.bool m] w (fZ o w))
  (hv:bT t s.data.toList=PL t o):
  Calls Tryz.prog 118 #[v,.string s] w fun e w'=>e= .returned (.int .i64 (bT t s.data.toList))∧Below w.heap.size w w':=by
 rw[hv];have h':=h;obtain⟨G,gn,gc,G',n',c',rfl,hg,hgs,hds,hst⟩:=h;have aQ:=af ((St.refl w).alloc #[.int .i64 t.start,.slice G gn gc,.slice G' n' c'] 26);have HT:=af h';have bC:=af hok;have HC:=af hc;have HP:=af hp;clear h' hok hds hg hgs hst hc hp hv;go_enter Tryz.func118,Tryz.ntmps118
 go_wp2_with fail
 refine(HC.out _).mono ?_;rintro e w1 ⟨rfl,q,rfl⟩;have bG:=af (aQ.out.quiet (below_drewN (ai _ _) q));clear aQ
 go_wp2_with fail
 refine(HP.out _).mono ?_;rintro e w2 ⟨v2,ds,rfl,hds,s2⟩;have HS2:=af (bG.out.call s2);clear s2 bG;have q2:=HS2.out.cells 0 rfl
 cases o with
 |none=>
  simp only[Option.isSome_none,PL];go_wp2;go_ret;exact⟨rfl,HS2.out.below⟩
 |some p=>
  obtain rfl:=hds p rfl;obtain⟨A,c,rfl,Qz⟩:=HS2.out.xq 1 rfl;have HRI:=af Qz;obtain⟨b,hb⟩:∃b,iL t ds=b:=⟨_,rfl⟩;have HB:=Bx.mk hb;clear Qz hds;simp only[Option.isSome_some];clear hb
  go_wp2_with fail
  refine(KX _ t A _ c ds _ (HT.out.up HS2.out.below) HRI.out bC.out).mono ?_;rw[HB.out];rintro e w3 ⟨rfl,hb3⟩;have HB3:=af (HS2.out.quiet hb3).below;clear hb3
  cases b with
  |false=>
   go_wp2;go_ret;exact⟨aG (by simp[PL,HB.out]),HB3.out⟩
  |true=>
   go_wp2;go_ret;exact⟨aG (by simp[PL,HB.out]),HB3.out⟩
def IV (t:aB):Option Int→Int
 |some z=>if dQ t z then 0 else -1
 |none=>-1
def ZT (t:aB):Option Nat→Int
 |some f=>if jV t f then 0 else -1
 |none=>-1
theorem EU (v:Value) (t:aB) (s:ByteArray) (b:List UInt8) (w:World) (h:nI w w.heap.size v t) (hok:aK t=true) (he:qV w)
  (hs:s.size≤9223372036854775807) (hd:s.data.toList=ji++32::b):
  Calls Tryz.prog 118 #[v,.string s] w fun e w'=>e= .returned (.int .i64 (bT t s.data.toList))∧Below w.heap.size w w':=by
 have hc:wZ s ⟨ji.toArray⟩ ⟨b.toArray⟩ true:=fun w=>NY s 32 ji b w (by decide) hd hs
 have hbs:=PK 32 ji b s hd;have hrd:=fun w=>mO ⟨b.toArray⟩ 10 w (by decide) (by show b.toArray.size≤_;rw[List.size_toArray];omega)
 rw[show bT t s.data.toList=IV t (rdNum 10 b) from IW hd];rw[show(⟨b.toArray⟩:ByteArray).data.toList=b from rfl] at hrd;obtain⟨o,ho⟩:∃o,rdNum 10 b=o:=⟨_,rfl⟩;rw[ho] at hrd ⊢
 have h':=h;obtain⟨G,gn,gc,G',n',c',rfl,hg,hgs,hds,hst⟩:=h;have aQ:=af ((St.refl w).alloc #[.int .i64 t.start,.slice G gn gc,.slice G' n' c'] 26);have HT:=af h';have bC:=af hok;have HC:=af hc;have AZ:=af hrd;have HE:=af he;clear h' hok hds hg hgs hst hc hrd ho hbs hd hs he;go_enter Tryz.func118,Tryz.ntmps118
 go_wp2_with fail
 refine(HC.out _).mono ?_;rintro e w1 ⟨rfl,q,rfl⟩;have bG:=af (aQ.out.quiet (below_drewN (ai _ _) q));clear aQ
 go_wp2_with fail
 refine(AZ.out _).mono ?_;rintro e w2 ⟨he2,rfl⟩
 unfold UW at he2
 subst he2;have q2:=bG.out.cells 0 rfl
 cases o with
 |none=>
  simp only[Option.isSome_none,Option.getD_none];go_wp2;go_ret;exact⟨rfl,bG.out.below⟩
 |some z=>
  simp only[Option.isSome_some,Option.getD_some];have hcl:=fun w' (h:Below w.heap.size w w')=>EW _ t z w' (HT.out.up h) (HE.out.up h) bC.out
  obtain⟨b2,hb2⟩:∃b2,dQ t z=b2:=⟨_,rfl⟩;rw[hb2] at hcl;have OX:=af hcl;have HV:=Bx.mk hb2;clear hcl hb2
  go_wp2_with fail
  refine(OX.out _ bG.out.below).mono ?_;rintro e w3 ⟨rfl,hb3⟩;have HB3:=af (bG.out.quiet hb3).below;clear hb3
  cases b2 with
  |false=>
   go_wp2;go_ret;exact⟨aG (by simp[IV,HV.out]),HB3.out⟩
  |true=>
   go_wp2;go_ret;exact⟨aG (by simp[IV,HV.out]),HB3.out⟩
theorem Ot (v:Value) (t:aB) (s:ByteArray) (b:List UInt8) (w:World) (h:nI w w.heap.size v t) (hok:aK t=true)
  (hs:s.size≤9223372036854775807) (hd:s.data.toList=sumW++32::b):
  Calls Tryz.prog 118 #[v,.string s] w fun e w'=>e= .returned (.int .i64 (bT t s.data.toList))∧Below w.heap.size w w':=by
 have hc:wZ s ⟨sumW.toArray⟩ ⟨b.toArray⟩ true:=fun w=>NY s 32 sumW b w (by decide) hd hs
 have hrd:=fun w=>Bd ⟨b.toArray⟩ w
 rw[show bT t s.data.toList=ZT t (sW b) from Rt hd];rw[show(⟨b.toArray⟩:ByteArray).data.toList=b from rfl] at hrd;obtain⟨o,ho⟩:∃o,sW b=o:=⟨_,rfl⟩;rw[ho] at hrd ⊢
 have h':=h;obtain⟨G,gn,gc,G',n',c',rfl,hg,hgs,hds,hst⟩:=h;have aQ:=af ((St.refl w).alloc #[.int .i64 t.start,.slice G gn gc,.slice G' n' c'] 26);have HT:=af h';have bC:=af hok;have HC:=af hc;have HO:=Bx.mk ho;have AZ:=af hrd;clear h' hok hds hg hgs hst hc hrd ho hd hs;go_enter Tryz.func118,Tryz.ntmps118
 go_wp2_with fail
 refine(HC.out _).mono ?_;rintro e w1 ⟨rfl,q,rfl⟩;have bG:=af (aQ.out.quiet (below_drewN (ai _ _) q));clear aQ
 go_wp2_with fail
 refine(AZ.out _).mono ?_;rintro e w2 ⟨rfl,hb2⟩;have HS2:=af (bG.out.quiet hb2);clear hb2 bG;have q2:=HS2.out.cells 0 rfl
 cases o with
 |none=>
  simp only[Option.isSome_none,Option.getD_none];go_wp2;go_ret;exact⟨rfl,HS2.out.below⟩
 |some f=>
  simp only[Option.isSome_some,Option.getD_some];have hf:=(qQ HO.out).1;have hcl:=fun w' (h:Below w.heap.size w w')=>DL _ t f hf w' (HT.out.up h) bC.out
  obtain⟨b2,hb2⟩:∃b2,jV t f=b2:=⟨_,rfl⟩;rw[hb2] at hcl;have OX:=af hcl;have HV:=Bx.mk hb2;clear hcl hb2 hf
  go_wp2_with fail
  refine(OX.out _ HS2.out.below).mono ?_;rintro e w3 ⟨rfl,hb3⟩;have HB3:=af (HS2.out.quiet hb3).below;clear hb3
  cases b2 with
  |false=>
   go_wp2;go_ret;exact⟨aG (by simp[ZT,HV.out]),HB3.out⟩
  |true=>
   go_wp2;go_ret;exact⟨aG (by simp[ZT,HV.out]),HB3.out⟩
theorem yt (v:Value) (t:aB) (s k r:ByteArray) (m:Bool) (w:World) (h:nI w w.heap.size v t)
  (hc:wZ s k r m) (h1:k.data.toList≠kP) (h2:k.data.toList≠ji∨m=false) (h3:k.data.toList≠sumW∨m=false) (hv:bT t s.data.toList= -1):
  Calls Tryz.prog 118 #[v,.string s] w fun e w'=>e= .returned (.int .i64 (bT t s.data.toList))∧Below w.heap.size w w':=by
 rw[hv];obtain⟨G,gn,gc,G',n',c',rfl,hg,hgs,hds,hst⟩:=h;have aQ:=af ((St.refl w).alloc #[.int .i64 t.start,.slice G gn gc,.slice G' n' c'] 26);have HC:=af hc
 have b1:(k.toList == [112,108,97,110])=false:=by
  rw[cO,Lib.toList_data];intro h;exact h1 (beq_iff_eq.1 h)
 obtain⟨d2,b2⟩:∃d,(k.toList == [99,108,111,115,101,100])=d:=⟨_,rfl⟩;obtain⟨d3,b3⟩:∃d,(k.toList == [115,117,109])=d:=⟨_,rfl⟩;have e2:d2=false∨m=false:=h2.imp (fun hh=>by rw[←b2,cO,Lib.toList_data];intro h;exact hh (beq_iff_eq.1 h)) id;have e3:d3=false∨m=false:=h3.imp (fun hh=>by rw[←b3,cO,Lib.toList_data];intro h;exact hh (beq_iff_eq.1 h)) id;have HE2:=af e2;have HE3:=af e3;clear hds hg hgs hst hc h1 h2 h3 hv e2 e3;go_enter Tryz.func118,Tryz.ntmps118
 go_wp2_with fail
 refine(HC.out _).mono ?_;rintro e w1 ⟨rfl,q,rfl⟩;have bG:=af (aQ.out.quiet (below_drewN (ai _ _) q));clear aQ
 cases m with
 |false=>
  cases d2<;>cases d3
  all_goals
   go_wp2;go_ret;exact⟨rfl,bG.out.below⟩
 |true=>
  obtain rfl:d2=false:=HE2.out.resolve_right (by simp);obtain rfl:d3=false:=HE3.out.resolve_right (by simp);go_wp2;go_ret;exact⟨rfl,bG.out.below⟩
theorem Bc (v:Value) (t:aB) (s:ByteArray) (w:World) (h:nI w w.heap.size v t) (hok:aK t=true) (he:qV w) (hs:s.size<4294967281):
  Calls Tryz.prog 118 #[v,.string s] w fun e w'=>e= .returned (.int .i64 (bT t s.data.toList))∧Below w.heap.size w w':=by
 have h6:t.ax.length≤6:=(aJ t hok).2.2.1;have hm:s.size≤9223372036854775807:=by omega
 by_cases hb:(32:UInt8)∈s.data.toList
 ·obtain⟨a,b,hab,ha⟩:=DN hb;have hcut:eX 32 [] s.data.toList=a::eX 32 [] b:=by rw[hab,nP ha,List.nil_append]
  have hc:wZ s ⟨a.toArray⟩ ⟨b.toArray⟩ true:=fun w=>NY s 32 a b w ha hab hm
  have hbs:=PK 32 a b s hab
  by_cases h1:a=kP
  ·subst h1;exact Ak v t s _ true _ w h hok hc (fun w=>IQ _ w (by show b.toArray.size<_;rw[List.size_toArray];omega)) (DR h6 hcut)
  by_cases h2:a=ji
  ·subst h2;exact EU v t s b w h hok he hm hab
  by_cases h3:a=sumW
  ·subst h3;exact Ot v t s b w h hok hm hab
  exact yt v t s _ _ true w h hc h1 (.inl h2) (.inl h3) (Am hcut h1 (.inl h2) (.inl h3))
 ·have hcut:eX 32 [] s.data.toList=[s.data.toList]:=by rw[ny hb,List.nil_append]
  have hc:wZ s s .empty false:=fun w=>UY s 32 w hb
  by_cases h1:s.data.toList=kP
  ·have hs':=ba_eq h1;have hv:=DR (t:=t) h6 (hcut.trans (by rw[h1]));exact Ak v t s .empty false (some []) w h hok (by have hc':=hc;unfold wZ at hc' ⊢;intro w;have:=hc' w;rw[hs'] at this ⊢;exact this) (fun w=>KT _ w) hv
  ·exact yt v t s s .empty false w h hc h1 (.inr rfl) (.inr rfl) (Am hcut h1 (.inr rfl) (.inr rfl))
end Go.Proofs.YtkmcengmglgdeaaGreatDoor
