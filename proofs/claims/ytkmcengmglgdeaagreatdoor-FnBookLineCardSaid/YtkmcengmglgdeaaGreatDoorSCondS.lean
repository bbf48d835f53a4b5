/- Joined texts: CondS, TB, TaskTI. -/
import Derived.Test.YtkmcengmglgdeaaGreatDoorSJourP
import Derived.Test.YtkmcengmglgdeaaGreatDoorSNum
import Derived.Test.YtkmcengmglgdeaaGreatDoorSCondT

namespace Go.Proofs.YtkmcengmglgdeaaGreatDoor
set_option linter.unusedVariables false
set_option linter.unusedSimpArgs false
set_option maxRecDepth 100000
set_option maxHeartbeats 8000000
open Go.ChangeShapes Go.WideShapes Go.ChangeAt Go.RowKit
theorem Wj (l:List Int): -(l.length:Int)≤needs l∧needs l≤l.length:=by
 induction l with
 |nil=>simp[needs]
 |cons x l ih=>
  simp only[needs,bM];have:0≤kz x∧kz x≤2:=by unfold kz;split<;>(try split)<;>omega
  omega
theorem Wl {xs pre s post:List Int} (hx:xs=pre++s++post) {m:Nat} (hm:m<s.length):xs[pre.length+m]? =s[m]? :=by
 subst hx;rw[List.append_assoc,List.getElem?_append_right (by omega),Nat.add_sub_cancel_left,List.getElem?_append_left hm]
theorem Wn {s:List Int} {m:Nat} {x:Int} (h:s[m]? =some x):needs (s.drop m)=kz x-1+needs (s.drop (m+1)):=by
 obtain⟨h1,h2⟩:=bI.1 h;rw[List.drop_eq_getElem_cons h1,h2];rfl
theorem PS (A:Option Addr) (n c:Nat) (xs:List Int) (last:Int) (pre post:List Int) (cd:Cond) (w:World) (h:jd .i64 w w.heap.size A n c xs) (hx:xs=pre++cd.steps++post) (hok:cd.Ok) (hl:last=(pre.length+cd.steps.length:Nat)-1) (hn:n≤1000):
  Calls Tryz.prog 199 #[.slice A n c,.int .i64 last] w fun e w'=>e= .returned (.int .i64 (pre.length:Nat))∧w=w':=by
 have hlen:=h.len;have hxl:xs.length=pre.length+cd.steps.length+post.length:=by rw[hx];simp;omega
 have H1:=af (cd.BG hok);have H2:=af (cd.Pv hok);have HX:=af hx;obtain⟨p,hp⟩:∃p,pre.length=p:=⟨_,rfl⟩;obtain⟨q,hq⟩:∃q,cd.steps.length=q:=⟨_,rfl⟩;have HP:=af hp;have HQ:=af hq;have hpq:p+q≤n:=by omega
 have hl':last+1=((p+q:Nat):Int):=by omega
 have hl2: -1≤last:=by omega
 have hl3:last≤2000:=by omega
 rw[hp];have aS:Hid (1+needs (cd.steps.drop q)=1):=af (by rw[List.drop_eq_nil_of_le (by omega)];rfl);clear hx hok hl hxl hlen hp hq;go_enter Tryz.func199,Tryz.ntmps199;go_wp2
 go_loop [5,6] (fun z a=>∃(m:Nat) (k:Int),m≤q∧z= .int .i64 k∧a= .int .i64 ((p+m:Nat):Int)∧(0≤k∧k≤2000)∧Hid (k=1+needs (cd.steps.drop m))) (fun _ a=>(intOf a).toNat)
 case atStart=>exact⟨q,1,aA _,rfl,by rw[←hl'];go_num,by omega,af aS.out.symm⟩
 case round=>
  clear aS;obtain⟨m,k,hm,rfl,rfl,hk,HK⟩:=hrel
  by_cases h0:m=0
  ·have hk0:k=0:=by rw[HK.out,h0,List.drop_zero,H1.out];rfl
   subst h0 hk0;go_wp2;go_ret;exact⟨rfl,rfl⟩
  ·obtain⟨j,rfl⟩:∃j,m=j+1:=⟨m-1,by omega⟩
   have hk1:0<k:=by
    have:=H2.out (j+1) (by omega)
    rw[HK.out];omega
   obtain⟨b,off,x,rfl,hb,hxx,hw,hc⟩:=h.get (i:=p+j) (by omega)
   have hsx:cd.steps[j]? =some x:=by
    have:=Wl HX.out (m:=j) (by rw[HQ.out];omega)
    rw[HP.out,hxx] at this;exact this.symm
   have HNA:=af (Wn hsx);have htb:0≤kz x∧kz x≤2:=by unfold kz;split<;>(try split)<;>omega
   have HBD:=af (Wj (cd.steps.drop j));have hdl:(cd.steps.drop j).length≤1000:=by rw[List.length_drop,HQ.out];omega
   have hpj:((p+(j+1):Nat):Int)-1=((p+j:Nat):Int):=by omega
   have hK2:k-1+kz x=1+needs (cd.steps.drop j):=by rw[HNA.out,HK.out];omega
   have hnn:0≤1+needs (cd.steps.drop j):=by
    rcases Nat.eq_zero_or_pos j with rfl | hj
    ·rw[List.drop_zero,H1.out];decide
    ·have:=H2.out j hj;omega
   have hK3:0≤k-1+kz x∧k-1+kz x≤2000:=by
    have:=HBD.out
    omega
   have HK2:=af hK2;obtain⟨t,ht⟩:∃t,kz x=t:=⟨_,rfl⟩;have HT:Hid ((if x=7 then(1:Int) else if x=8∨x=9 then 2 else 0)=t):=af ht;rw[ht] at hK3 htb HK2;clear hK2 hnn hsx hxx hdl ht h0 hw
   go_wp2_with fail
   refine(l9 x _).mono ?_;rw[HT.out];rintro e w1 ⟨rfl,rfl⟩;go_wp2
   go_round
   case rel=>exact⟨j,_,by omega,rfl,by go_num,hK3,HK2⟩
   case measure=>simp[intOf];omega
theorem Nv (a b:List UInt8) (x:UInt8):(⟨a.toArray⟩++⟨#[x]⟩++⟨b.toArray⟩:ByteArray)=⟨(a++x::b).toArray⟩:=by
 rw[show(⟨#[x]⟩:ByteArray)=⟨[x].toArray⟩ from rfl,iV,iV];simp
theorem baB (t:List UInt8):(⟨#[40]⟩++⟨t.toArray⟩++⟨#[41]⟩:ByteArray)=⟨(40::(t++[41])).toArray⟩:=by
 rw[show(⟨#[40]⟩:ByteArray)=⟨[40].toArray⟩ from rfl,show(⟨#[41]⟩:ByteArray)=⟨[41].toArray⟩ from rfl,iV,iV];simp
theorem jl (l:List UInt8):(⟨l.toArray⟩:ByteArray).size=l.length:=by rw[Lib.size_eq]
theorem PU (cd:Cond):cd.Ok→cd.steps.length≤100→∀(A:Option Addr) (n c:Nat) (xs:List Int) (last:Int) (pre post:List Int) (k:Nat) (w:World) (h:jd .i64 w w.heap.size A n c xs) (hx:xs=pre++cd.steps++post) (hl:last=(pre.length+cd.steps.length:Nat)-1) (hk:k≤3) (hn:n≤1000),
  Calls Tryz.prog 173 #[.slice A n c,.int .i64 last,.int .i64 (k:Nat)] w fun e w'=>e= .returned (.string ⟨(cd.text k).toArray⟩)∧Below w.heap.size w w':=by
 induction cd with
 |one s=>
  intro hok hsl A n c xs last pre post k w h hx hl hk hn;obtain⟨hs0,hs6⟩:0≤s∧s≤6:=hok;have hxl:xs.length=pre.length+1+post.length:=by rw[hx];simp[Cond.steps];omega
  have hat:=Wl hx (m:=0) (by simp[Cond.steps]);have hlen:=h.len;obtain⟨b,off,x,rfl,hb,hxx,hw,hc⟩:=h.get (i:=pre.length) (by omega)
  obtain rfl:x=s:=by
   rw[Nat.add_zero,hxx] at hat
   simpa[Cond.steps] using hat
  obtain⟨p,hp⟩:∃p,pre.length=p:=⟨_,rfl⟩;rw[hp] at hc;have hl':last=((p:Nat):Int):=by simp only[Cond.steps,bM,List.length_nil] at hl;omega
  have hpn:p<n:=by omega
  subst hl';clear hat hxx hxl hl hp hx hlen hw
  by_cases h5:x=5
  ·subst h5;go_enter Tryz.func173,Tryz.ntmps173;go_wp2;go_ret;exact⟨rfl,ai _ _⟩
  by_cases h6:x=6
  ·subst h6;go_enter Tryz.func173,Tryz.ntmps173;go_wp2;go_ret;exact⟨rfl,ai _ _⟩
  have hd:=Ip hs0 (by omega)
  have hcv:(convert 22 9 (.slice (some ⟨w.heap.size,0,none⟩) 1 1)).run Tryz.prog (w.alloc (.cells #[.int .u8 (97+x)] 5))= .ok (.string ⟨[sgn x].toArray⟩) (w.alloc (.cells #[.int .u8 (97+x)] 5)):=
   vg _ _ _ (by rw[hd];exact(fU.new w 5 #[.int .u8 (97+x)]).cell 0)
  have hlt:x<5:=by omega
  clear hd h5 h6;go_enter Tryz.func173,Tryz.ntmps173;go_wp2;go_ret;exact⟨rfl,(ai _ _).alloc (aA _) _⟩
 |turn p ih=>
  intro hok hsl A n c xs last pre post k w h hx hl hk hn;have ac4:p.steps.length≤100:=by simp only[Cond.steps,bQ,bM,List.length_nil] at hsl;omega
  have hx2:xs=pre++p.steps++(7::post):=by rw[hx];simp[Cond.steps]
  have hxl:xs.length=pre.length+p.steps.length+1+post.length:=by rw[hx2];simp;omega
  have hat:xs[pre.length+p.steps.length]? =some 7:=by
   rw[hx2,List.append_assoc,←List.append_assoc,List.getElem?_append_right (by simp)];simp
  have hlen:=h.len;obtain⟨b,off,x,rfl,hb,hxx,hw,hc⟩:=h.get (i:=pre.length+p.steps.length) (by omega)
  obtain rfl:x=7:=by rw[hat] at hxx;injection hxx with hxx;exact hxx.symm
  have hl2:last=((pre.length+p.steps.length:Nat):Int):=by rw[hl];simp only[Cond.steps,bQ,bM,List.length_nil];omega
  have HIH:=af (ih hok ac4 (some ⟨b,off,none⟩) n c xs (last-1) pre (7::post) 3 w h hx2 (by omega) (by omega) hn);have hT:((p.text 3).length:Int)≤600:=by have:=p.oU 3;omega
  obtain⟨T,hT'⟩:∃x:ByteArray,(⟨(p.text 3).toArray⟩:ByteArray)=x:=⟨_,rfl⟩;have h1:¬9223372036854775807<1+T.size:=by rw[←hT',jl];omega
  have HT:=Bx.mk hT';have hs1:=p.Ar;obtain⟨q,hq⟩:∃q,pre.length+p.steps.length=q:=⟨_,rfl⟩;rw[hq] at hc hl2;have hqn:q<n:=by omega
  have hq1:1≤q:=by omega
  subst hl2;clear hat hxx hxl hl hx hx2 hlen hw hT hT' ih hsl ac4 hq hs1;go_enter Tryz.func173,Tryz.ntmps173
  go_wp2_with fail
  refine HIH.out.mono ?_;rw[HT.out];rintro e w1 ⟨rfl,hb1⟩;have HB1:=af hb1;clear hb1;go_wp2;go_ret;exact⟨dK (by rw[←HT.out,show(⟨#[33]⟩:ByteArray)=⟨[33].toArray⟩ from rfl,iV];rfl),HB1.out⟩
 |join s l r ihl ihr=>
  intro hok hsl A n c xs last pre post k w h hx hl hk hn;obtain⟨hs,PO,hokr⟩:=hok;simp only[Cond.steps,bQ,bM,List.length_nil] at hsl;have ac5:xs=pre++l.steps++(r.steps++s::post):=by rw[hx];simp[Cond.steps]
  have Wp:xs=(pre++l.steps)++r.steps++(s::post):=by rw[hx];simp[Cond.steps]
  have hxl:xs.length=pre.length+l.steps.length+r.steps.length+1+post.length:=by rw[Wp];simp;omega
  have hat:xs[pre.length+l.steps.length+r.steps.length]? =some s:=by
   rw[Wp,List.getElem?_append_right (by simp;omega)];simp only[bQ,Nat.sub_self,List.getElem?_cons_zero]
  have hlen:=h.len;obtain⟨b,off,x,rfl,hb,hxx,hw,hc⟩:=h.get (i:=pre.length+l.steps.length+r.steps.length) (by omega)
  obtain rfl:x=s:=by rw[hat] at hxx;injection hxx with hxx;exact hxx.symm
  have hl2:last=((pre.length+l.steps.length+r.steps.length:Nat):Int):=by rw[hl];simp only[Cond.steps,bQ,bM,List.length_nil];omega
  obtain⟨q,hq⟩:∃q,pre.length+l.steps.length+r.steps.length=q:=⟨_,rfl⟩;obtain⟨q1,hq1⟩:∃q,pre.length+l.steps.length=q:=⟨_,rfl⟩;have p1:=l.Ar;have p2:=r.Ar;rw[hq] at hc hl2;have hqn:q<n:=by omega
  have hq2:1≤q1:=by omega
  have hq3:q1+1≤q:=by omega
  have rC:Hid (∀w':World,Below w.heap.size w w'→Calls Tryz.prog 199 #[.slice (some ⟨b,off,none⟩) n c,.int .i64 ((q:Int)-1)] w' fun e w2=>e= .returned (.int .i64 (q1:Nat))∧w'=w2):=af fun w' hw'=>by
   have:=PS (some ⟨b,off,none⟩) n c xs ((q:Int)-1) (pre++l.steps) (x::post) r w' (h.up hw') Wp hokr (by rw[bQ,hq1,←hq];omega) hn
   rwa[bQ,hq1] at this
  have HLT:Hid (∀(m:Nat) (w':World),m≤3→Below w.heap.size w w'→Calls Tryz.prog 173 #[.slice (some ⟨b,off,none⟩) n c,.int .i64 ((q1:Int)-1),.int .i64 (m:Nat)] w' fun e w2=>e= .returned (.string ⟨(l.text m).toArray⟩)∧Below w'.heap.size w' w2):=af fun m w' hm hw'=>
   ihl PO (by omega) (some ⟨b,off,none⟩) n c xs ((q1:Int)-1) pre (r.steps++x::post) m w' (h.up hw') ac5 (by rw[hq1]) hm hn
  have HRT:Hid (∀(m:Nat) (w':World),m≤3→Below w.heap.size w w'→Calls Tryz.prog 173 #[.slice (some ⟨b,off,none⟩) n c,.int .i64 ((q:Int)-1),.int .i64 (m:Nat)] w' fun e w2=>e= .returned (.string ⟨(r.text m).toArray⟩)∧Below w'.heap.size w' w2):=af fun m w' hm hw'=>
   ihr hokr (by omega) (some ⟨b,off,none⟩) n c xs ((q:Int)-1) (pre++l.steps) (x::post) m w' (h.up hw') Wp (by rw[bQ,hq1,←hq];omega) hm hn
  have Uc:Hid (∀m,(l.text m).length≤500):=af fun m=>by have:=l.oU m;omega
  have HZR:Hid (∀m,(r.text m).length≤500):=af fun m=>by have:=r.oU m;omega
  subst hl2;clear hat hxx hxl hl hx ac5 Wp hlen hw ihl ihr hsl hq hq1 p1 p2 PO hokr
  rcases hs with hs | hs
  ·obtain rfl:x=8:=hs;obtain⟨SL,CV⟩:∃x:ByteArray,(⟨(l.text 2).toArray⟩:ByteArray)=x:=⟨_,rfl⟩;obtain⟨SR,hSR⟩:∃x:ByteArray,(⟨(r.text 3).toArray⟩:ByteArray)=x:=⟨_,rfl⟩;have z1:SL.size≤500:=by rw[←CV,jl];exact Uc.out 2
   have z2:SR.size≤500:=by rw[←hSR,jl];exact HZR.out 3
   have hT:(Cond.join 8 l r).text k=if 2<k then 40::((l.text 2++38::r.text 3)++[41]) else l.text 2++38::r.text 3:=by simp only[Cond.text];rfl
   have HT:=af hT;have KZ:=Bx.mk CV;have Ua:=Bx.mk hSR;have HE:=af (show SL++⟨#[38]⟩++SR=⟨(l.text 2++38::r.text 3).toArray⟩ by rw[←CV,←hSR];exact Nv _ _ _);have n1:¬9223372036854775807<SL.size+1:=by omega
   have n2:¬9223372036854775807<SL.size+1+SR.size:=by omega
   clear CV hSR hT Uc HZR;go_enter Tryz.func173,Tryz.ntmps173
   go_wp2_with fail
   refine(rC.out _ (ai _ _)).mono ?_;rintro e w1 ⟨rfl,rfl⟩
   go_wp2_with fail
   refine(HLT.out 2 _ (by omega) (ai _ _)).mono ?_;rw[KZ.out];rintro e w2 ⟨rfl,hb2⟩;have HB2:=af hb2;clear hb2
   go_wp2_with fail
   refine(HRT.out 3 _ (by omega) HB2.out).mono ?_;rw[Ua.out];rintro e w3 ⟨rfl,hb3⟩;have HB3:=af (HB2.out.trans (hb3.mono HB2.out.size));clear hb3
   by_cases hmk:2<k
   ·have hmk':(2:Int)<(k:Int):=by omega
    have n3:¬9223372036854775807<1+(SL.size+1+SR.size):=by omega
    have n4:¬9223372036854775807<1+(SL.size+1+SR.size)+1:=by omega
    have HV:=af (show(⟨#[40]⟩++(SL++⟨#[38]⟩++SR)++⟨#[41]⟩:ByteArray)=⟨((Cond.join 8 l r).text k).toArray⟩ by rw[HT.out,if_pos hmk,HE.out];exact baB _);clear hmk;go_wp2;go_ret;exact⟨dK HV.out,HB3.out⟩
   ·have hmk':¬(2:Int)<(k:Int):=by omega
    have HV:=af (show(SL++⟨#[38]⟩++SR:ByteArray)=⟨((Cond.join 8 l r).text k).toArray⟩ by rw[HT.out,if_neg hmk,HE.out]);clear hmk;go_wp2;go_ret;exact⟨dK HV.out,HB3.out⟩
  ·obtain rfl:x=9:=hs;obtain⟨SL,CV⟩:∃x:ByteArray,(⟨(l.text 1).toArray⟩:ByteArray)=x:=⟨_,rfl⟩;obtain⟨SR,hSR⟩:∃x:ByteArray,(⟨(r.text 2).toArray⟩:ByteArray)=x:=⟨_,rfl⟩;have z1:SL.size≤500:=by rw[←CV,jl];exact Uc.out 1
   have z2:SR.size≤500:=by rw[←hSR,jl];exact HZR.out 2
   have hT:(Cond.join 9 l r).text k=if 1<k then 40::((l.text 1++124::r.text 2)++[41]) else l.text 1++124::r.text 2:=by simp only[Cond.text];rfl
   have HT:=af hT;have KZ:=Bx.mk CV;have Ua:=Bx.mk hSR;have HE:=af (show SL++⟨#[124]⟩++SR=⟨(l.text 1++124::r.text 2).toArray⟩ by rw[←CV,←hSR];exact Nv _ _ _);have n1:¬9223372036854775807<SL.size+1:=by omega
   have n2:¬9223372036854775807<SL.size+1+SR.size:=by omega
   clear CV hSR hT Uc HZR;go_enter Tryz.func173,Tryz.ntmps173
   go_wp2_with fail
   refine(rC.out _ (ai _ _)).mono ?_;rintro e w1 ⟨rfl,rfl⟩
   go_wp2_with fail
   refine(HLT.out 1 _ (by omega) (ai _ _)).mono ?_;rw[KZ.out];rintro e w2 ⟨rfl,hb2⟩;have HB2:=af hb2;clear hb2
   go_wp2_with fail
   refine(HRT.out 2 _ (by omega) HB2.out).mono ?_;rw[Ua.out];rintro e w3 ⟨rfl,hb3⟩;have HB3:=af (HB2.out.trans (hb3.mono HB2.out.size));clear hb3
   by_cases hmk:1<k
   ·have hmk':(1:Int)<(k:Int):=by omega
    have n3:¬9223372036854775807<1+(SL.size+1+SR.size):=by omega
    have n4:¬9223372036854775807<1+(SL.size+1+SR.size)+1:=by omega
    have HV:=af (show(⟨#[40]⟩++(SL++⟨#[124]⟩++SR)++⟨#[41]⟩:ByteArray)=⟨((Cond.join 9 l r).text k).toArray⟩ by rw[HT.out,if_pos hmk,HE.out];exact baB _);clear hmk;go_wp2;go_ret;exact⟨dK HV.out,HB3.out⟩
   ·have hmk':¬(1:Int)<(k:Int):=by omega
    have HV:=af (show(SL++⟨#[124]⟩++SR:ByteArray)=⟨((Cond.join 9 l r).text k).toArray⟩ by rw[HT.out,if_neg hmk,HE.out]);clear hmk;go_wp2;go_ret;exact⟨dK HV.out,HB3.out⟩
theorem xq (A:Option Addr) (n c:Nat) (xs:List Int) (w:World) (h:jd .i64 w w.heap.size A n c xs) (hn:n≤1099511627776):
  Calls Tryz.prog 127 #[.slice A n c] w fun e w'=>e= .returned (.string ⟨(jQ xs).toArray⟩)∧Below w.heap.size w w':=by
 cases hok:codeOk xs with
 |false=>
  have HT:Hid (jQ xs=[]):=af (by unfold jQ;rw[hok];rfl);go_enter Tryz.func127,Tryz.ntmps127
  go_wp2_with fail
  refine(jK A n c xs _ h hn).mono ?_;rw[hok];rintro e w1 ⟨rfl,rfl⟩;go_wp2;go_ret;exact⟨dK (a:=⟨#[]⟩) (by rw[HT.out]),ai _ _⟩
 |true=>
  have HT:Hid (jQ xs=(l7 xs).text 0):=af (by unfold jQ;rw[hok];rfl);obtain⟨-,g2,g3⟩:=vH hok;have Rl:=((jg xs).1 hok).2.1;have hl:=h.len
  have HLT:Hid (∀w':World,w=w'→Calls Tryz.prog 173 #[.slice A n c,.int .i64 ((n:Int)-1),.int .i64 (0:Nat)] w' fun e w2=>e= .returned (.string ⟨((l7 xs).text 0).toArray⟩)∧Below w'.heap.size w' w2):=af fun w' hw'=>by
   subst hw';exact PU (l7 xs) g2 (by rw[g3];omega) A n c xs ((n:Int)-1) [] [] 0 w h (by rw[g3];simp) (by rw[g3,hl];simp) (by omega) (by omega)
  have H:=af h;have bG:=af hok;clear h hok g2 g3 hl Rl;go_enter Tryz.func127,Tryz.ntmps127
  go_wp2_with fail
  refine(jK A n c xs _ H.out hn).mono ?_;rw[bG.out];rintro e w1 ⟨rfl,rfl⟩
  go_wp2_with fail
  refine(HLT.out _ rfl).mono ?_;rintro e w2 ⟨rfl,hb2⟩;have HB2:=af hb2;clear hb2;go_wp2;go_ret;exact⟨dK (by rw[HT.out]),HB2.out⟩
theorem Kept.blk {b:Nat} {w w':World} (h:Kept b w w') {g:Nat} {t:TypeId} {cs:Array Value} (k:fU w g t cs) (hg:g≠b) (ht:t≠5):fU w' g t cs:=
 h g _ k (fun e=>hg (Option.some.inj e)) (fun c fz e=>ht (by injection e))
theorem QO {T e:TypeId} {B B' b:Nat} {p:Value} {bs:List Value} {w:World} (h:Lib.BuilderAt T e B b p bs w) (hB:B'≤B):Lib.BuilderAt T e B' b p bs w:=by
 obtain⟨h1,v,h2,h3,h4⟩:=h;exact⟨Nat.le_trans hB h1,v,h2,qY h3 hB,h4⟩
structure TS (w:World) (b:Nat) (l:List UInt8) (Bs:List (Nat×TypeId×Array Value)) (wr:World):Prop where
 isb:QS w.heap.size b l wr
 below:Below w.heap.size w wr
 len:l.length≤1000000
 TN:∀(i:Nat) x,Bs[i]? =some x→fU wr x.1 x.2.1 x.2.2∧x.1≠b∧x.2.1≠5
section
variable {w wr w' : World} {b : Nat} {l : List UInt8} {Bs : List (Nat × TypeId × Array Value)}
theorem TS.cell (h:TS w b l Bs wr) (i:Nat) {g:Nat} {t:TypeId} {cs:Array Value} (hi:Bs[i]? =some (g,t,cs)):∀j,wr.cell? ⟨g,j,none⟩=cs[j]? :=(h.TN i _ hi).1.cell
theorem TS.quiet (h:TS w b l Bs wr) (k:Below wr.heap.size wr w'):TS w b l Bs w':=
 ⟨h.isb.later k,h.below.trans (k.mono h.below.size),h.len,fun i x hx=>by
  obtain⟨h1,h2⟩:=h.TN i x hx
  exact⟨(k.block x.1 h1.lt).trans h1,h2⟩⟩
theorem TS.alloc (h:TS w b l Bs wr) (cs:Array Value) (t:TypeId) (ht:t≠5):TS w b l ((wr.heap.size,t,cs)::Bs) (wr.alloc (.cells cs t)):=
 have hq:=h.quiet ((ai _ _).alloc (aA _) (.cells cs t))
 ⟨hq.isb,hq.below,h.len,fun i x hx=>by
  match i with
  |0=>
   injection hx with hx;subst hx
   exact⟨fU.new wr t cs,(Nat.ne_of_lt (aaV h.isb)).symm,ht⟩
  |i+1=>exact hq.TN i x hx⟩
theorem TS.tl {x:Nat×TypeId×Array Value} (h:TS w b l (x::Bs) wr):TS w b l Bs wr:=⟨h.isb,h.below,h.len,fun i y hy=>h.TN (i+1) y hy⟩
theorem TS.wb (h:TS w b l Bs wr) (c:UInt8) (hl:l.length+1≤1000000):
  Calls Tryz.prog 97 #[.pointer (some ⟨b,0,none⟩),.int .u8 c.toNat] wr fun e w'=>e= .returned .nilIface∧TS w b (l++[c]) Bs w':=
 (Np w.heap.size b l c wr h.isb (by omega) h.below.size).mono fun _ _ ⟨he,h1,h2,h3⟩=>⟨he,h1,h.below.trans h2,by simpa using hl,fun i x hx=>by
  obtain⟨k1,k2,k3⟩:=h.TN i x hx
  exact⟨h3.blk k1 k2 k3,k2,k3⟩⟩
theorem TS.ws (h:TS w b l Bs wr) (s:ByteArray) (t:List UInt8) (ht:s=⟨t.toArray⟩) (hl:l.length+t.length≤1000000):
  Calls Tryz.prog 96 #[.pointer (some ⟨b,0,none⟩),.string s] wr fun e w'=>e= .returned (.tuple #[.int .i64 s.size,.nilIface])∧TS w b (l++t) Bs w':=by
 have hd:s.data.toList=t:=by rw[ht]
 have hz:s.size=t.length:=by rw[Lib.size_eq,hd]
 refine(Gi w.heap.size b l s wr h.isb (by omega) h.below.size).mono fun _ _ ⟨he,h1,h2,h3⟩=>⟨he,by rw[hd] at h1;exact h1,h.below.trans h2,by simpa using hl,fun i x hx=>?_⟩
 obtain⟨k1,k2,k3⟩:=h.TN i x hx;exact⟨h3.blk k1 k2 k3,k2,k3⟩
theorem TS.done (h:TS w b l Bs wr):
  Calls Tryz.prog 98 #[.pointer (some ⟨b,0,none⟩)] wr fun e w'=>e= .returned (.string ⟨l.toArray⟩)∧Below w.heap.size w w':=
 (zl w.heap.size b l wr h.isb h.below.size).mono fun _ _ ⟨he,h1⟩=>⟨he,h.below.trans h1⟩
theorem TS.new2 (hb:Below w.heap.size w wr) {g:Nat} {t:TypeId} {cs:Array Value} (k:fU wr g t cs) (hg:g<wr.heap.size) (e:wr.heap.size=b) (ht:t≠5):
  TS w b [] [(g,t,cs)] (wr.alloc (.cells #[.pointer none,.slice none 0 0] 117)):=by
 subst e
 have h1:QS w.heap.size wr.heap.size [] (wr.alloc (.cells #[.pointer none,.slice none 0 0] 117)):=by
  rcases Lib.fresh_isBuilder 117 5 wr with h | h
  ·exact .inl (QO h hb.size)
  ·exact .inr (QO h hb.size)
 have ha:=(ai wr.heap.size wr).alloc (aA _) (.cells #[.pointer none,.slice none 0 0] 117);refine⟨h1,hb.trans (ha.mono hb.size),by simp,fun i x hx=>?_⟩
 match i with
 |0=>
  injection hx with hx;subst hx
  exact⟨(ha.block g hg).trans k,by omega,ht⟩
 |i+1=>simp at hx
theorem TS.acX (w:World):TS w w.heap.size [] [] (w.alloc (.cells #[.pointer none,.slice none 0 0] 117)):=
 ⟨Lib.fresh_isBuilder 117 5 w,(ai _ _).alloc (aA _) _,by simp,fun i x hx=>by simp at hx⟩
end
def lD (d:au):List UInt8:=59::(jQ d.need++58::(gK d.on.toNat++44::(gK d.off.toNat++44::gK d.flip.toNat)))
def o6 (t:aB):List UInt8:=gK t.start.toNat++62::jQ t.goal
theorem BH (t:aB):rF t=o6 t++t.ay.flatMap lD:=by
 unfold rF o6 lD;simp
theorem TR (d:au):(lD d).length≤300:=by
 have h1:=nY d.need;have h2:=iM d.on.toNat;have h3:=iM d.off.toNat;have h4:=iM d.flip.toNat
 unfold lD
 simp only[bQ,bM];omega
theorem Ij (t:aB):(o6 t).length≤300:=by
 have h1:=nY t.goal;have h2:=iM t.start.toNat
 unfold o6
 simp only[bQ,bM];omega
theorem EW (ds:List au):(ds.flatMap lD).length≤300*ds.length:=by
 induction ds with
 |nil=>simp
 |cons d ds ih=>have:=TR d;simp only[List.flatMap_cons,bQ,bM];omega
theorem EX {ds:List au} {k:Nat} {d:au} (h:ds[k]? =some d):(ds.take (k+1)).flatMap lD=(ds.take k).flatMap lD++lD d:=by
 rw[List.take_add_one,h];simp
theorem Ik {d:au} (h:bK d=true):(0≤d.on∧d.on<32)∧(0≤d.off∧d.off<32)∧0≤d.flip∧d.flip<32:=by
 unfold bK at h
 simp only[Bool.and_eq_true] at h;exact⟨(aV _).1 h.1.1.1.2,(aV _).1 h.1.1.2,(aV _).1 h.1.2⟩
theorem F5 (v:Value) (t:aB) (w:World) (h:oW w w.heap.size v t) (hok:aK t=true):
  Calls Tryz.prog 114 #[v] w fun e w'=>e= .returned (.string ⟨(rF t).toArray⟩)∧Below w.heap.size w w':=by
 have h':=h;obtain⟨G,gn,gc,G',n',c',rfl,hg,hgs,hds,hst⟩:=h;have HV:=af h';have HG:=af hg;have Bf:=af hds;have bG:=af hok;obtain⟨qx,-,pz,iL⟩:=aJ t hok;obtain⟨st,hst'⟩:∃x,t.start=x:=⟨_,rfl⟩;obtain⟨s0,rfl⟩:=bC (show 0≤st by omega);have mG:s0<32:=by omega
 have gQ:=af iL;have yF:n'≤6:=by rw[←hds.len];exact pz
 have gy:=af hds.len;have HST:Hid (t.start.toNat=s0):=af (by rw[hst'];simp);rw[hst'] at HV ⊢
 have rC:=af (BH t);have HHD:Hid (o6 t=gK s0++[62]++jQ t.goal):=af (by unfold o6;rw[HST.out];simp);have HHL:=af (Ij t);have HB0:Hid (Below w.heap.size w (w.alloc (.cells #[.int .i64 (s0:Int),.slice G gn gc,.slice G' n' c'] 26))):=af ((ai _ _).alloc (aA _) _);clear h' hg hgs hds hst hok qx pz iL hst';go_enter Tryz.func114,Tryz.ntmps114
 go_wp2_with fail
 refine(bZ _ t _ (HV.out.up HB0.out)).mono ?_;rw[bG.out];rintro e w1 ⟨rfl,hb1⟩;have k1:fU w1 w.heap.size 26 #[.int .i64 (s0:Int),.slice G gn gc,.slice G' n' c']:=(hb1.block _ (by simp)).trans (fU.new w _ _);have HB1:=af (HB0.out.trans (hb1.mono HB0.out.size));have HT1:=af (TS.new2 HB1.out k1 k1.lt rfl (by decide));have q0:(w1.alloc (.cells #[.pointer none,.slice none 0 0] 117)).cell? ⟨w.heap.size,0,none⟩=some (.int .i64 (s0:Int)):=HT1.out.cell 0 rfl 0;obtain⟨b,hb⟩:∃x,w1.heap.size=x:=⟨_,rfl⟩;have HL:Hid ((0:Nat)≤0):=af (aA _);clear hb1 k1
 go_wp2_with fail
 try rw[hb]
 refine(iQ s0 mG _).mono ?_;rintro e w2 ⟨rfl,h2⟩;have HT2:=af (HT1.out.quiet h2);rw[hb] at HT2;clear h2 HT1 q0 hb HB0 HB1
 go_wp2_with fail
 refine(HT2.out.ws _ (gK s0) rfl (by have:=iM s0;(try simp only[bQ,bM,List.length_nil]);omega)).mono ?_;rintro e w3 ⟨rfl,h3⟩;have HT3:=af h3;have ND:=af (iM s0);have HL:Hid ((gK s0).length≤5):=ND;clear h3 HT2
 go_wp2_with fail
 refine(HT3.out.wb 62 (by have:=HL.out;(try simp only[bQ,bM,List.length_nil]);omega)).mono ?_;rintro e w4 ⟨rfl,h4⟩;have HT4:=af h4;clear h4 HT3;have q1:w4.cell? ⟨w.heap.size,1,none⟩=some (.slice G gn gc):=HT4.out.cell 0 rfl 1
 go_wp2_with fail
 refine(xg G gn gc t.goal w4 (HG.out.up HT4.out.below)).mono ?_;rintro e w5 ⟨rfl,h5⟩;have HT5:=af (HT4.out.quiet h5);clear h5 HT4 q1
 go_wp2_with fail
 refine(HT5.out.ws _ (jQ t.goal) rfl (by have:=HL.out;have:=nY t.goal;(try simp only[bQ,bM,List.length_nil]);omega)).mono ?_;rintro e w6 ⟨rfl,h6⟩;have Ya:=af h6;clear h6 HT5;have q2:w6.cell? ⟨w.heap.size,2,none⟩=some (.slice G' n' c'):=Ya.out.cell 0 rfl 2;obtain⟨BT,hBT⟩:∃x:List (Nat×TypeId×Array Value),[(w.heap.size,26,#[.int .i64 (s0:Int),.slice G gn gc,.slice G' n' c'])]=x:=⟨_,rfl⟩;rw[hBT] at Ya;clear hBT;have HT0:Hid (TS w b (o6 t++(t.ay.take 0).flatMap lD) BT w6):=af (by have:=Ya.out;rw[List.take_zero,List.flatMap_nil,List.append_nil,HHD.out];simpa using this);go_wp2;clear HL ND Ya HHD q2
 go_loopw [21] (fun i wr=>∃k:Nat,k≤n'∧i= .int .i64 k∧Hid (TS w b (o6 t++(t.ay.take k).flatMap lD) BT wr)) (fun i _=>n'-(intOf i).toNat)
 case atStart=>exact⟨0,by omega,rfl,HT0⟩
 case round=>
  clear HT0;obtain⟨k,hk,rfl,HT⟩:=hrel
  by_cases hlt:k<n'
  ·obtain⟨db,off,d,rfl,hdb,hd,hda⟩:=Bf.out.get hlt;obtain⟨An,nn,cn,p0,p1,p2,p3,dU,hnn,-⟩:=hda;have r0:wr.cell? ⟨db,off+k*4,none⟩=some (.slice An nn cn):=(aF HT.out.below db _ hdb).trans p0;have r1:wr.cell? ⟨db,off+k*4+1,none⟩=some (.int .i64 d.on):=(aF HT.out.below db _ hdb).trans p1;have r2:wr.cell? ⟨db,off+k*4+2,none⟩=some (.int .i64 d.off):=(aF HT.out.below db _ hdb).trans p2;have r3:wr.cell? ⟨db,off+k*4+3,none⟩=some (.int .i64 d.flip):=(aF HT.out.below db _ hdb).trans p3;have HN:=af dU;obtain⟨⟨o1,o2⟩,⟨f1,f2⟩,x1,x2⟩:=Ik (gQ.out d (bT hd));have zB:=af (EX hd);have Yb:Hid (lD d=[59]++jQ d.need++[58]++gK d.on.toNat++[44]++gK d.off.toNat++[44]++gK d.flip.toNat):=af (by unfold lD;simp);obtain⟨don,hon⟩:∃x,d.on=x:=⟨_,rfl⟩;obtain⟨Zz,hof⟩:∃x,d.off=x:=⟨_,rfl⟩;obtain⟨dfl,hfl⟩:∃x,d.flip=x:=⟨_,rfl⟩;rw[hon] at r1 o1 o2 Yb;rw[hof] at r2 f1 f2 Yb;rw[hfl] at r3 x1 x2 Yb;obtain⟨on,rfl⟩:=bC o1;obtain⟨of,rfl⟩:=bC f1;obtain⟨fl,rfl⟩:=bC x1;have aaZ:on<32:=by omega
   have aa0:of<32:=by omega
   have aa1:fl<32:=by omega
   simp only[bW] at Yb;obtain⟨pre,hpre⟩:∃x,o6 t++(t.ay.take k).flatMap lD=x:=⟨_,rfl⟩;have HL:Hid (pre.length≤2400):=af (by rw[←hpre,bQ];have:=EW (t.ay.take k);have:=HHL.out;have:(t.ay.take k).length≤k:=List.length_take_le _ _;omega);have HP2:Hid (o6 t++(t.ay.take (k+1)).flatMap lD=pre++lD d):=af (by rw[zB.out,←hpre,List.append_assoc]);have HT1:Hid (TS w b pre ((wr.heap.size,144,#[.slice An nn cn,.int .i64 (on:Int),.int .i64 (of:Int),.int .i64 (fl:Int)])::BT) (wr.alloc (.cells #[.slice An nn cn,.int .i64 (on:Int),.int .i64 (of:Int),.int .i64 (fl:Int)] 144))):=af (by rw[←hpre];exact HT.out.alloc _ _ (by decide));obtain⟨dg,hdg⟩:∃x,wr.heap.size=x:=⟨_,rfl⟩;rw[hdg] at HT1;clear p0 p1 p2 p3 dU hnn hd hpre HT zB o1 o2 f1 f2 x1 x2 hon hof hfl
   go_wp2_with fail
   try rw[hdg]
   clear hdg;refine(HT1.out.wb 59 (by have:=HL.out;(try simp only[bQ,bM,List.length_nil]);omega)).mono ?_;rintro e w2 ⟨rfl,h2⟩;have HT2:=af h2;clear h2 HT1;have q0:w2.cell? ⟨dg,0,none⟩=some (.slice An nn cn):=HT2.out.cell 0 rfl 0
   go_wp2_with fail
   refine(xg An nn cn d.need w2 (HN.out.up HT2.out.below)).mono ?_;rintro e w3 ⟨rfl,h3⟩;have HT3:=af (HT2.out.quiet h3);clear h3 HT2 q0
   go_wp2_with fail
   refine(HT3.out.ws _ (jQ d.need) rfl (by have:=HL.out;have:=nY d.need;(try simp only[bQ,bM,List.length_nil]);omega)).mono ?_;rintro e w4 ⟨rfl,h4⟩;have HT4:=af h4;clear h4 HT3;have HL:Hid (pre.length+(jQ d.need).length≤2600):=af (by have:=HL.out;have:=nY d.need;omega)
   go_wp2_with fail
   refine(HT4.out.wb 58 (by have:=HL.out;(try simp only[bQ,bM,List.length_nil]);omega)).mono ?_;rintro e w5 ⟨rfl,h5⟩;have HT5:=af h5;clear h5 HT4;have q1:w5.cell? ⟨dg,1,none⟩=some (.int .i64 (on:Int)):=HT5.out.cell 0 rfl 1
   go_wp2_with fail
   refine(iQ on aaZ w5).mono ?_;rintro e w6 ⟨rfl,h6⟩;have Ya:=af (HT5.out.quiet h6);clear h6 HT5 q1
   go_wp2_with fail
   refine(Ya.out.ws _ (gK on) rfl (by have:=HL.out;have:=iM on;(try simp only[bQ,bM,List.length_nil]);omega)).mono ?_;rintro e w7 ⟨rfl,h7⟩;have HT7:=af h7;clear h7 Ya;have HL:Hid (pre.length+(jQ d.need).length+(gK on).length≤2610):=af (by have:=HL.out;have:=iM on;omega)
   go_wp2_with fail
   refine(HT7.out.wb 44 (by have:=HL.out;(try simp only[bQ,bM,List.length_nil]);omega)).mono ?_;rintro e w8 ⟨rfl,h8⟩;have HT8:=af h8;clear h8 HT7;have q2:w8.cell? ⟨dg,2,none⟩=some (.int .i64 (of:Int)):=HT8.out.cell 0 rfl 2
   go_wp2_with fail
   refine(iQ of aa0 w8).mono ?_;rintro e w9 ⟨rfl,h9⟩;have HT9:=af (HT8.out.quiet h9);clear h9 HT8 q2
   go_wp2_with fail
   refine(HT9.out.ws _ (gK of) rfl (by have:=HL.out;have:=iM of;(try simp only[bQ,bM,List.length_nil]);omega)).mono ?_;rintro e w10 ⟨rfl,h10⟩;have ac1:=af h10;clear h10 HT9;have HL:Hid (pre.length+(jQ d.need).length+(gK on).length+(gK of).length≤2620):=af (by have:=HL.out;have:=iM of;omega)
   go_wp2_with fail
   refine(ac1.out.wb 44 (by have:=HL.out;(try simp only[bQ,bM,List.length_nil]);omega)).mono ?_;rintro e Ue ⟨rfl,h11⟩;have aa2:=af h11;clear h11 ac1;have q3:Ue.cell? ⟨dg,3,none⟩=some (.int .i64 (fl:Int)):=aa2.out.cell 0 rfl 3
   go_wp2_with fail
   refine(iQ fl aa1 Ue).mono ?_;rintro e w12 ⟨rfl,h12⟩;have ac2:=af (aa2.out.quiet h12);clear h12 aa2 q3
   go_wp2_with fail
   refine(ac2.out.ws _ (gK fl) rfl (by have:=HL.out;have:=iM fl;(try simp only[bQ,bM,List.length_nil]);omega)).mono ?_;rintro e w13 ⟨rfl,h13⟩;have ac3:=af h13;clear h13 ac2;have HTN:Hid (TS w b (o6 t++(t.ay.take (k+1)).flatMap lD) BT w13):=af (by have:=ac3.out.tl;rw[HP2.out,Yb.out];simpa using this);clear ac3 HL;go_wp2
   go_roundw
   case rel=>exact⟨k+1,by omega,by go_num,HTN⟩
   case measure=>simp[intOf];omega
  ·have hke:k=n':=by omega
   have HE:Hid (rF t=o6 t++(t.ay.take k).flatMap lD):=af (by rw[rC.out,hke,←gy.out,List.take_length]);clear hke
   go_wp2_with fail
   refine HT.out.done.mono ?_;rintro e w2 ⟨rfl,hb2⟩;have HB:=af hb2;clear hb2;go_wp2;go_ret;exact⟨dK (by rw[HE.out]),HB.out⟩
end Go.Proofs.YtkmcengmglgdeaaGreatDoor
