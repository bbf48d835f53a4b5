/- A part of the proof: Run. -/
import Derived.Test.YtkmcengmglgdeaaGreatDoorSNum
namespace Go.Proofs.YtkmcengmglgdeaaGreatDoor
set_option linter.unusedVariables false
set_option linter.unusedSimpArgs false
set_option maxRecDepth 100000
set_option maxHeartbeats 8000000
open Go.ChangeShapes Go.WideShapes Go.ChangeAt Go.RowKit
def fG (w:World) (g:Nat) (st:List Bool):Prop:=
 st.length≤40∧∃cs t,iJ w g t cs∧cs.size=40∧∀i,i<st.length→cs[i]? =some (.bool (st.getD (st.length-1-i) false))
theorem fG.cell_ {w:World} {g:Nat} {st:List Bool} (h:fG w g st) (i:Nat) (hi:i<40):∃v,w.cell? ⟨g,i,none⟩=some v:=by
 obtain⟨_,cs,t,hk,hs,_⟩:=h;exact⟨cs[i],(hk.cell i).trans (Array.getElem?_eq_getElem (by omega))⟩
theorem fG.free {w:World} {g:Nat} {st:List Bool} (h:fG w g st) (i:Nat):w.frozen? ⟨g,i,none⟩=false:=by
 obtain⟨_,cs,t,hk,hs,_⟩:=h;exact hk.frozen i
theorem fG.at_ {w:World} {g:Nat} {pre r:List Bool} {a:Bool} (h:fG w g (pre++a::r)):w.cell? ⟨g,r.length,none⟩=some (.bool a):=by
 obtain⟨hl,cs,t,hk,hs,hc⟩:=h;rw[hk.cell,hc r.length (by simp;omega)]
 congr 2
 simp[List.getD]
theorem fG.put {w:World} {g:Nat} {pre r:List Bool} (h:fG w g (pre++r)) (hr:r.length<40) (v:Bool):fG (w.setCell ⟨g,r.length,none⟩ (.bool v)) g (v::r):=by
 obtain⟨hl,cs,t,hk,hs,hc⟩:=h;refine⟨by simp;omega,_,t,hk.nT r.length _,by simpa using hs,fun i hi=>?_⟩;simp only[bM] at hi ⊢
 rw[Array.getElem?_setIfInBounds]
 by_cases he:r.length=i
 ·subst he;rw[if_pos rfl,if_pos (by omega)]
  simp[List.getD]
 ·rw[if_neg he,hc i (by simp;omega)]
  congr 2
  simp only[List.getD,bK];rw[List.getElem?_append_right (by omega)];have e1:r.length+1-1-i=(r.length-1-i)+1:=by omega
  have e2:pre.length+r.length-1-i-pre.length=r.length-1-i:=by omega
  rw[e1,e2,List.getElem?_cons_succ]
theorem tK (A:Option Addr) (n c:Nat) (xs:List Int) (s:Nat) (w:World) (h:iO .i64 w w.heap.size A n c xs) (hok:codeOk xs=true) (hs:s<32):
  Calls Tryz.prog 149 #[.slice A n c,.int .i64 s] w fun e w'=>e= .returned (.bool (aH xs s))∧Below w.heap.size w w':=by
 have hl:=h.len;have Qk:=((iV xs).1 hok);obtain⟨hn1,hn2,hfin⟩:=Qk;rw[hl] at hn1 hn2;have HL:=af hl;have HAT:=af (yX xs hok);have jH:=af hfin;clear hl hfin hok;go_enter Tryz.func149,Tryz.ntmps149;go_wp2
 go_loopw [11,6] (fun i tt wr=>∃(k d:Nat) (st:List Bool),k≤n∧d≤k∧i= .int .i64 k∧tt= .int .i64 d∧Hid (st.length=d∧qc s [] (xs.take k)=st∧jm 0 (xs.take k)=some d)∧fG wr w.heap.size st∧Below w.heap.size w wr) (fun i _ _=>n-(intOf i).toNat)
 case atStart=>exact⟨0,0,[],by omega,by omega,rfl,rfl,af ⟨rfl,rfl,rfl⟩,⟨by simp,_,_,iJ.new _ _ _,rfl,by simp⟩,(ai _ _).alloc (ay _) _⟩
 case round=>
  obtain⟨k,d,st,hk,hd,rfl,rfl,HST,mV,hbel⟩:=hrel
  by_cases hlt:k<n
  ·obtain⟨b,off,x,rfl,hb,hx,hw,hc⟩:=h.get hlt;have hcr:wr.cell? ⟨b,off+k,none⟩=some (.int .i64 x):=(aC hbel b _ hb).trans hc;obtain⟨d0,hd0,-,hstep⟩:=HAT.out k (by rw[HL.out];exact hk);obtain⟨d',hd'⟩:=hstep x hx
   have hdd:d0=d:=by
    have:=hd0.symm.trans HST.out.2.2
    injection this
   rw[hdd] at hd';have yL:Hid ((gI s st x).length=d'∧qc s [] (xs.take (k+1))=gI s st x∧jm 0 (xs.take (k+1))=some d'):=af ⟨xE s st x d' (by rw[HST.out.1];exact hd'),by rw[xG s xs k x hx,HST.out.2.1],(qI xs k x hx d HST.out.2.2).1.trans hd'⟩;have vM:=af hd';have hlen:=HST.out.1;clear hx hd0 hstep hd' hdd hc HST
   by_cases h5:x=5
   ·subst h5;have hfr:=mV.free d;obtain⟨v,hv⟩:=mV.cell_ d (by omega);have hput:=fG.put (pre:=[]) mV (by omega) true;rw[hlen] at hput
    have hd2:d'=d+1:=by have:=vM.out;rw[jZ d 5 (by omega) (by omega)] at this;injection this with this;exact this.symm
    have HP:Hid (fG (wr.setCell ⟨w.heap.size,d,none⟩ (.bool true)) w.heap.size (gI s st 5)):=af hput;have HD2:=af hd2;clear hd2 hlen hput mV;go_wp2
    go_roundw
    case rel=>exact⟨k+1,d+1,_,by omega,by omega,by go_num,by go_num,af (by rw[←HD2.out];exact yL.out),HP.out,hbel.setCell (by simp) _⟩
    case measure=>simp[intOf];omega
   by_cases h6:x=6
   ·subst h6;have hfr:=mV.free d;obtain⟨v,hv⟩:=mV.cell_ d (by omega);have hput:=fG.put (pre:=[]) mV (by omega) false;rw[hlen] at hput
    have hd2:d'=d+1:=by have:=vM.out;rw[jZ d 6 (by omega) (by omega)] at this;injection this with this;exact this.symm
    have HP:Hid (fG (wr.setCell ⟨w.heap.size,d,none⟩ (.bool false)) w.heap.size (gI s st 6)):=af hput;have HD2:=af hd2;clear hd2 hlen hput mV;go_wp2
    go_roundw
    case rel=>exact⟨k+1,d+1,_,by omega,by omega,by go_num,by go_num,af (by rw[←HD2.out];exact yL.out),HP.out,hbel.setCell (by simp) _⟩
    case measure=>simp[intOf];omega
   by_cases h7:x=7
   ·subst h7
    have h1:1≤d:=by
     rcases Nat.lt_or_ge d 1 with h | h
     ·have:=vM.out;rw[oM d (by omega)] at this;cases this
     ·exact h
    have hd2:d'=d:=by have:=vM.out;rw[qJ d h1] at this;injection this with this;exact this.symm
    obtain⟨a,r,rfl⟩:∃a r,st=a::r:=by
     match st,hlen with
     | [],h=>simp at h;omega
     |a::r,_=>exact⟨a,r,rfl⟩
    obtain⟨q,rfl⟩:∃q,d=q+1:=⟨d-1,by omega⟩;have hrq:r.length=q:=by simpa using hlen
    subst hrq;have c1:=fG.at_ (pre:=[]) mV;have f0:=mV.free r.length;have hput:=fun u=>fG.put (pre:=[a]) mV (by omega) u
    have HD2:=af hd2;have HP:=af hput;clear hd2 hlen hput mV h1;go_wp2
    go_roundw
    case rel=>exact⟨k+1,r.length+1,_,by omega,by omega,by go_num,by go_num,af (by have:=yL.out;rw[HD2.out] at this;exact this),HP.out _,hbel.setCell (by simp) _⟩
    case measure=>simp[intOf];omega
   by_cases h8:x=8
   ·subst h8
    have h2:2≤d:=by
     rcases Nat.lt_or_ge d 2 with h | h
     ·have:=vM.out;rw[lu d 8 (by omega) (by omega) (by omega)] at this;cases this
     ·exact h
    have hd2:d'=d-1:=by have:=vM.out;rw[mZ d 8 (by omega) (by omega) h2] at this;injection this with this;exact this.symm
    obtain⟨a,b2,r,rfl⟩:∃a b2 r,st=a::b2::r:=by
     match st,hlen with
     | [],h=>simp at h;omega
     | [_],h=>simp at h;omega
     |a::b2::r,_=>exact⟨a,b2,r,rfl⟩
    obtain⟨q,rfl⟩:∃q,d=q+2:=⟨d-2,by omega⟩;have hrq:r.length=q:=by simpa using hlen
    subst hrq;have c1:=fG.at_ (pre:=[]) mV;have c0:=fG.at_ (pre:=[a]) mV;have f0:=mV.free r.length;have hput:=fun u=>fG.put (pre:=[a,b2]) mV (by omega) u
    have HD2:=af hd2;have HP:=af hput;simp only[bM] at c1;clear hd2 hlen hput mV h2
    cases b2
    ·go_wp2
     go_roundw
     case rel=>exact⟨k+1,r.length+1,_,by omega,by omega,by go_num,by go_num,af (by have:=yL.out;rw[HD2.out] at this;exact this),HP.out _,hbel.setCell (by simp) _⟩
     case measure=>simp[intOf];omega
    ·go_wp2
     go_roundw
     case rel=>exact⟨k+1,r.length+1,_,by omega,by omega,by go_num,by go_num,af (by have:=yL.out;rw[HD2.out] at this;exact this),HP.out _,hbel.setCell (by simp) _⟩
     case measure=>simp[intOf];omega
   by_cases h9:x=9
   ·subst h9
    have h2:2≤d:=by
     rcases Nat.lt_or_ge d 2 with h | h
     ·have:=vM.out;rw[lu d 9 (by omega) (by omega) (by omega)] at this;cases this
     ·exact h
    have hd2:d'=d-1:=by have:=vM.out;rw[mZ d 9 (by omega) (by omega) h2] at this;injection this with this;exact this.symm
    obtain⟨a,b2,r,rfl⟩:∃a b2 r,st=a::b2::r:=by
     match st,hlen with
     | [],h=>simp at h;omega
     | [_],h=>simp at h;omega
     |a::b2::r,_=>exact⟨a,b2,r,rfl⟩
    obtain⟨q,rfl⟩:∃q,d=q+2:=⟨d-2,by omega⟩;have hrq:r.length=q:=by simpa using hlen
    subst hrq;have c1:=fG.at_ (pre:=[]) mV;have c0:=fG.at_ (pre:=[a]) mV;have f0:=mV.free r.length;have hput:=fun u=>fG.put (pre:=[a,b2]) mV (by omega) u
    have HD2:=af hd2;have HP:=af hput;simp only[bM] at c1;clear hd2 hlen hput mV h2
    cases b2
    ·go_wp2
     go_roundw
     case rel=>exact⟨k+1,r.length+1,_,by omega,by omega,by go_num,by go_num,af (by have:=yL.out;rw[HD2.out] at this;exact this),HP.out _,hbel.setCell (by simp) _⟩
     case measure=>simp[intOf];omega
    ·go_wp2
     go_roundw
     case rel=>exact⟨k+1,r.length+1,_,by omega,by omega,by go_num,by go_num,af (by have:=yL.out;rw[HD2.out] at this;exact this),HP.out _,hbel.setCell (by simp) _⟩
     case measure=>simp[intOf];omega
   have adg:0≤x∧x<5:=by
    rcases Int.lt_or_le x 0 with h | h
    ·have:=vM.out;rw[kD d x (.inl h)] at this;cases this
    rcases Int.lt_or_le 9 x with h' | h'
    ·have:=vM.out;rw[kD d x (.inr h')] at this;cases this
    omega
   obtain⟨hx0,hx4⟩:=adg;obtain⟨m,rfl⟩:=bI hx0;have e5:(((m:Nat):Int) == 5)=false:=by simpa using h5
   have e6:(((m:Nat):Int) == 6)=false:=by simpa using h6
   have e7:(((m:Nat):Int) == 7)=false:=by simpa using h7
   have e8:(((m:Nat):Int) == 8)=false:=by simpa using h8
   have e9:(((m:Nat):Int) == 9)=false:=by simpa using h9
   have hb1:=and_one s m (by omega);have hfr:=mV.free d;obtain⟨v,hv⟩:=mV.cell_ d (by omega);have hput:=fG.put (pre:=[]) mV (by omega) (bit s m == 1);rw[hlen] at hput
   have hd2:d'=d+1:=by have:=vM.out;rw[jZ d m (by omega) (by omega)] at this;injection this with this;exact this.symm
   have hes:gI s st (m:Int)=(bit s m == 1)::st:=by unfold gI;rw[if_neg h5,if_neg h6,if_neg h7,if_neg h8,if_neg h9,dD]
   have hcast:(((bit s m:Nat):Int) == 1)=(bit s m == 1):=by
    have:=jI s m
    obtain h | h:bit s m=0∨bit s m=1:=by omega
    all_goals rw[h];rfl
   have HP:Hid (fG (wr.setCell ⟨w.heap.size,d,none⟩ (.bool (bit s m == 1))) w.heap.size (gI s st m)):=af (by rw[hes];exact hput);have HD2:=af hd2;clear hd2 hlen hput mV hes h5 h6 h7 h8 h9;go_wp2
   go_roundw
   case rel=>exact⟨k+1,d+1,_,by omega,by omega,by go_num,by go_num,af (by rw[←HD2.out];exact yL.out),HP.out,hbel.setCell (by simp) _⟩
   case measure=>simp[intOf];omega
  ·have hkn:k=n:=by omega
   subst hkn;obtain⟨h1,h2,h3⟩:=HST.out;rw[←HL.out,List.take_length] at h2 h3;have hd1:d=1:=by have:=h3.symm.trans jH.out;injection this
   subst hd1
   obtain⟨a,rfl⟩:∃a,st=[a]:=by
    match st,h1 with
    | [a],_=>exact⟨a,rfl⟩
   have HV:Hid (aH xs s=a):=af (by unfold aH;rw[h2];rfl);have c0:=fG.at_ (pre:=[]) (r:=[]) mV;simp only[List.length_nil] at c0;clear h1 h2 h3 mV;go_wp2;go_ret;exact⟨bf HV.out.symm,hbel⟩
theorem BV {w:World} {base:Nat} {e:TypeId} {size n cap m:Nat} {A:Option Addr} {xs:List Value} (h:w.ownsRow base e size (.slice A n cap) n xs) (hm:m≤n) (h0:0<n):w.ownsRow base e size (.slice A m cap) m (xs.take (m*size)):=by
 obtain⟨hl,h2⟩:=h;have hle:m*size≤n*size:=Nat.mul_le_mul_right _ hm;refine⟨by rw[List.length_take,hl];omega,?_⟩
 rcases h2 with⟨e,e0⟩ | ⟨g,cp,cur,hv,hg,hh,h3,h4,h5,h6⟩
 ·omega
 ·simp only[Value.slice.injEq] at hv;obtain⟨rfl,-,rfl⟩:=hv;refine .inr ⟨g,cap,cur,rfl,hg,hh,by omega,h4,h5,?_⟩;rw[←h6,List.take_take]
  congr 1
  omega
theorem kZ {w:World} {base:Nat} {e:TypeId} {size n:Nat} {v:Value} {xs:List Value} (h:w.ownsRow base e size v n xs) (h0:0<n):∃g cap,v= .slice (some ⟨g,0,none⟩) n cap∧base≤g∧n≤cap∧cap≤maxLen:=by
 rcases h.2 with⟨_,e0⟩ | ⟨g,cap,cur,hv,hg,_,h3,h4,_⟩
 ·omega
 ·exact⟨g,cap,hv,hg,h3,h4⟩
theorem TJ:tJ Tryz.prog 169 4 (.bool false) 1 1:=⟨Tryz.underlying169,info_parts (by kernel_rfl),rfl,by omega⟩
def bools (st:List Bool):List Value:=st.reverse.map Value.bool
theorem jJ (a:Bool) (r:List Bool):bools (a::r)=bools r++[.bool a]:=by simp[bools]
theorem je (st:List Bool):(bools st).length=st.length:=by simp[bools]
theorem qK (a:Bool) (r:List Bool):(bools (a::r))[r.length]? =some (.bool a):=by
 rw[jJ,List.getElem?_append_right (by rw[je];omega),je];simp
theorem yY (a v:Bool) (r:List Bool):(bools (a::r)).set r.length (.bool v)=bools (v::r):=by
 rw[jJ,jJ,List.set_append_right _ _ (by rw[je];omega),je];simp
theorem kE (A:Option Addr) (n c:Nat) (xs:List Int) (s:Nat) (w:World) (h:iO .i64 w w.heap.size A n c xs) (hok:codeOk xs=true) (_hs:s<32):
  Calls Tryz.prog 121 #[.slice A n c,.int .i64 s] w fun e w'=>e= .returned (.bool (aH xs s))∧Below w.heap.size w w':=by
 have hl:=h.len;have Qk:=((iV xs).1 hok);obtain⟨hn1,hn2,hfin⟩:=Qk;rw[hl] at hn1 hn2;have HL:=af hl;have HAT:=af (yX xs hok);have jH:=af hfin;clear hl hfin hok;go_enter Tryz.func121,Tryz.ntmps121;go_wp2
 go_loopw [6,5] (fun i v wr=>∃(k d:Nat) (st:List Bool),k≤n∧d≤k∧i= .int .i64 k∧Hid (st.length=d∧qc s [] (xs.take k)=st∧jm 0 (xs.take k)=some d)∧wr.ownsRow w.heap.size 4 1 v d (bools st)∧Below w.heap.size w wr) (fun i _ _=>n-(intOf i).toNat)
 case atStart=>exact⟨0,0,[],by omega,by omega,rfl,af ⟨rfl,rfl,rfl⟩,World.ownsRow_lit w #[] 0 (ay _) (by unfold maxLen;omega) rfl,(ai _ _).alloc (ay _) _⟩
 case round=>
  obtain⟨k,d,st,hk,hd,rfl,HST,hown,hbel⟩:=hrel;have hsz:=hbel.size
  by_cases hlt:k<n
  ·obtain⟨b,off,x,rfl,hb,hx,hw,hc⟩:=h.get hlt;have hcr:wr.cell? ⟨b,off+k,none⟩=some (.int .i64 x):=(aC hbel b _ hb).trans hc;obtain⟨d0,hd0,-,hstep⟩:=HAT.out k (by rw[HL.out];exact hk);obtain⟨d',hd'⟩:=hstep x hx
   have hdd:d0=d:=by
    have:=hd0.symm.trans HST.out.2.2
    injection this
   rw[hdd] at hd';have yL:Hid ((gI s st x).length=d'∧qc s [] (xs.take (k+1))=gI s st x∧jm 0 (xs.take (k+1))=some d'):=af ⟨xE s st x d' (by rw[HST.out.1];exact hd'),by rw[xG s xs k x hx,HST.out.2.1],(qI xs k x hx d HST.out.2.2).1.trans hd'⟩;have vM:=af hd';have hlen:=HST.out.1;clear hx hd0 hstep hd' hdd hc HST
   by_cases hfact:x<5
   ·have hx0:0≤x:=by
     rcases Int.lt_or_le x 0 with h | h
     ·have:=vM.out;rw[kD d x (.inl h)] at this;cases this
     ·exact h
    obtain⟨m,rfl⟩:=bI hx0
    have hd2:d'=d+1:=by have:=vM.out;rw[jZ d m (by omega) (by omega)] at this;injection this with this;exact this.symm
    have hes:gI s st (m:Int)=(bit s m == 1)::st:=by unfold gI;rw[if_neg (by omega),if_neg (by omega),if_neg (by omega),if_neg (by omega),if_neg (by omega),dD]
    have hcast:(((bit s m:Nat):Int) == 1)=(bit s m == 1):=by
     have:=jI s m
     obtain h | h:bit s m=0∨bit s m=1:=by omega
     all_goals rw[h];rfl
    have HD2:=af hd2;have HES:=af hes;have HC:=af hcast;obtain⟨C,cc,rfl⟩:=dS hown;clear hd2 hlen hes hcast
    go_wp2_with (first
     | (go_at_call 126;refine(jO _ _ (by omega) _).mono ?_;rintro e w' ⟨rfl,rfl⟩)
     | (at_builtin;refine dX TJ rfl _ _ rfl w.heap.size _ d _ rfl (hown.alloc _) _ _ 1 1 [.bool (((bit s m:Nat):Int) == 1)] rfl (bQ.new wr [.bool (((bit s m:Nat):Int) == 1)] 4 1 1 rfl (by unfold maxLen;omega)) (by simp[Value.oneCell']) (by omega) (by omega) (by simp;omega) ?_;intro v5 w5 hown5 hg5 EC))
    have hb5:Below w.heap.size w w5:=(hbel.alloc hsz _).grown hg5 (by simp;omega) (fun k hk=>by have:=(hown.lt k hk).1;omega);have ho5:w5.ownsRow w.heap.size 4 1 v5 (d+1) (bools (gI s st m)):=by rw[HES.out,jJ,←HC.out];exact hown5
    clear hown5 hg5 EC;go_wp2
    go_roundw
    case rel=>exact⟨k+1,d+1,_,by omega,by omega,by go_num,af (by rw[←HD2.out];exact yL.out),ho5,hb5⟩
    case measure=>simp[intOf];omega
   by_cases hyn:x=5∨x=6
   ·have hd2:d'=d+1:=by have:=vM.out;rw[jZ d x (by omega) (by omega)] at this;injection this with this;exact this.symm
    have hes:gI s st x=(x == 5)::st:=by
     unfold gI
     rcases hyn with rfl | rfl
     ·rfl
     ·rfl
    have HD2:=af hd2;have HES:=af hes;obtain⟨C,cc,rfl⟩:=dS hown;clear hd2 hlen hes
    rcases hyn with rfl | rfl
    all_goals
     go_wp2_with (at_builtin;refine dX TJ rfl _ _ rfl w.heap.size _ d _ rfl (hown.alloc _) _ _ 1 1 [.bool _] rfl (bQ.new wr [.bool _] 4 1 1 rfl (by unfold maxLen;omega)) (by simp[Value.oneCell']) (by omega) (by omega) (by simp;omega) ?_;intro v5 w5 hown5 hg5 EC)
     rw[←jJ] at hown5;have hb5:Below w.heap.size w w5:=(hbel.alloc hsz _).grown hg5 (by simp;omega) (fun k hk=>by have:=(hown.lt k hk).1;omega);clear hg5 EC;go_wp2
     go_roundw
     case rel=>exact⟨k+1,d+1,_,by omega,by omega,by go_num,af (by rw[←HD2.out];exact yL.out),by rw[HES.out];exact hown5,hb5⟩
     case measure=>simp[intOf];omega
   by_cases h7:x=7
   ·subst h7
    have h1:1≤d:=by
     rcases Nat.lt_or_ge d 1 with h | h
     ·have:=vM.out;rw[oM d (by omega)] at this;cases this
     ·exact h
    have hd2:d'=d:=by have:=vM.out;rw[qJ d h1] at this;injection this with this;exact this.symm
    obtain⟨a,r,rfl⟩:∃a r,st=a::r:=by
     match st,hlen with
     | [],h=>simp at h;omega
     |a::r,_=>exact⟨a,r,rfl⟩
    obtain⟨q,rfl⟩:∃q,d=q+1:=⟨d-1,by omega⟩;have hrq:r.length=q:=by simpa using hlen
    subst hrq;obtain⟨g,cap,rfl,hg,hcap,hcapm⟩:=kZ hown (by omega)
    unfold maxLen at hcapm
    have c0:wr.cell? ⟨g,r.length,none⟩=some (.bool a):=(hown.cellAt r.length (by omega)).trans (qK a r);have f0:wr.frozen? ⟨g,r.length,none⟩=false:=hown.frozenAt r.length
    have HO:=af (fun u=>by
     have h1:=(hown.stored r.length (.bool u)).1;rw[yY] at h1
     exact h1)
    have HD2:=af hd2;clear hd2 hlen hown h1;go_wp2
    go_roundw
    case rel=>exact⟨k+1,r.length+1,_,by omega,by omega,by go_num,af (by have:=yL.out;rw[HD2.out] at this;exact this),HO.out _,hbel.setCell hg _⟩
    case measure=>simp[intOf];omega
   by_cases h8:x=8
   ·subst h8
    have h2:2≤d:=by
     rcases Nat.lt_or_ge d 2 with h | h
     ·have:=vM.out;rw[lu d 8 (by omega) (by omega) (by omega)] at this;cases this
     ·exact h
    have hd2:d'=d-1:=by have:=vM.out;rw[mZ d 8 (by omega) (by omega) h2] at this;injection this with this;exact this.symm
    obtain⟨a,b2,r,rfl⟩:∃a b2 r,st=a::b2::r:=by
     match st,hlen with
     | [],h=>simp at h;omega
     | [_],h=>simp at h;omega
     |a::b2::r,_=>exact⟨a,b2,r,rfl⟩
    obtain⟨q,rfl⟩:∃q,d=q+2:=⟨d-2,by omega⟩;have hrq:r.length=q:=by simpa using hlen
    subst hrq;obtain⟨g,cap,rfl,hg,hcap,hcapm⟩:=kZ hown (by omega)
    unfold maxLen at hcapm
    have c1:wr.cell? ⟨g,r.length+1,none⟩=some (.bool a):=(hown.cellAt (r.length+1) (by omega)).trans (qK a (b2::r));have c0:wr.cell? ⟨g,r.length,none⟩=some (.bool b2):=(hown.cellAt r.length (by omega)).trans (by rw[jJ,List.getElem?_append_left (by rw[je];simp)];exact qK b2 r);have f0:wr.frozen? ⟨g,r.length,none⟩=false:=hown.frozenAt r.length
    have HO:=af (fun u=>by
     have h1:=(hown.stored r.length (.bool u)).1;have h2:=BV (m:=r.length+1) h1 (by omega) (by omega)
     have e:((bools (a::b2::r)).set r.length (.bool u)).take ((r.length+1)*1)=bools (u::r):=by
      rw[jJ a,List.set_append_left _ _ (by rw[je];simp),yY,Nat.mul_one,List.take_append_of_le_length (by rw[je];simp),dJ (by rw[je];simp)]
     rw[e] at h2
     exact h2)
    have HD2:=af hd2;clear hd2 hlen hown h2
    cases b2
    ·go_wp2
     go_roundw
     case rel=>exact⟨k+1,r.length+1,_,by omega,by omega,by go_num,af (by have:=yL.out;rw[HD2.out] at this;exact this),HO.out _,hbel.setCell hg _⟩
     case measure=>simp[intOf];omega
    ·go_wp2
     go_roundw
     case rel=>exact⟨k+1,r.length+1,_,by omega,by omega,by go_num,af (by have:=yL.out;rw[HD2.out] at this;exact this),HO.out _,hbel.setCell hg _⟩
     case measure=>simp[intOf];omega
   have h9:x=9:=by
    rcases Int.lt_or_le 9 x with h' | h'
    ·have:=vM.out;rw[kD d x (.inr h')] at this;cases this
    omega
   subst h9
   have h2:2≤d:=by
    rcases Nat.lt_or_ge d 2 with h | h
    ·have:=vM.out;rw[lu d 9 (by omega) (by omega) (by omega)] at this;cases this
    ·exact h
   have hd2:d'=d-1:=by have:=vM.out;rw[mZ d 9 (by omega) (by omega) h2] at this;injection this with this;exact this.symm
   obtain⟨a,b2,r,rfl⟩:∃a b2 r,st=a::b2::r:=by
    match st,hlen with
    | [],h=>simp at h;omega
    | [_],h=>simp at h;omega
    |a::b2::r,_=>exact⟨a,b2,r,rfl⟩
   obtain⟨q,rfl⟩:∃q,d=q+2:=⟨d-2,by omega⟩;have hrq:r.length=q:=by simpa using hlen
   subst hrq;obtain⟨g,cap,rfl,hg,hcap,hcapm⟩:=kZ hown (by omega)
   unfold maxLen at hcapm
   have c1:wr.cell? ⟨g,r.length+1,none⟩=some (.bool a):=(hown.cellAt (r.length+1) (by omega)).trans (qK a (b2::r));have c0:wr.cell? ⟨g,r.length,none⟩=some (.bool b2):=(hown.cellAt r.length (by omega)).trans (by rw[jJ,List.getElem?_append_left (by rw[je];simp)];exact qK b2 r);have f0:wr.frozen? ⟨g,r.length,none⟩=false:=hown.frozenAt r.length
   have HO:=af (fun u=>by
    have h1:=(hown.stored r.length (.bool u)).1;have h2:=BV (m:=r.length+1) h1 (by omega) (by omega)
    have e:((bools (a::b2::r)).set r.length (.bool u)).take ((r.length+1)*1)=bools (u::r):=by
     rw[jJ a,List.set_append_left _ _ (by rw[je];simp),yY,Nat.mul_one,List.take_append_of_le_length (by rw[je];simp),dJ (by rw[je];simp)]
    rw[e] at h2
    exact h2)
   have HD2:=af hd2;clear hd2 hlen hown h2
   cases b2
   ·go_wp2
    go_roundw
    case rel=>exact⟨k+1,r.length+1,_,by omega,by omega,by go_num,af (by have:=yL.out;rw[HD2.out] at this;exact this),HO.out _,hbel.setCell hg _⟩
    case measure=>simp[intOf];omega
   ·go_wp2
    go_roundw
    case rel=>exact⟨k+1,r.length+1,_,by omega,by omega,by go_num,af (by have:=yL.out;rw[HD2.out] at this;exact this),HO.out _,hbel.setCell hg _⟩
    case measure=>simp[intOf];omega
  ·have hkn:k=n:=by omega
   subst hkn;obtain⟨h1,h2,h3⟩:=HST.out;rw[←HL.out,List.take_length] at h2 h3;have hd1:d=1:=by have:=h3.symm.trans jH.out;injection this
   subst hd1
   obtain⟨a,rfl⟩:∃a,st=[a]:=by
    match st,h1 with
    | [a],_=>exact⟨a,rfl⟩
   have HV:Hid (aH xs s=a):=af (by unfold aH;rw[h2];rfl);obtain⟨g,cap,rfl,hg,hcap,hcapm⟩:=kZ hown (by omega);have c0:wr.cell? ⟨g,0,none⟩=some (.bool a):=(hown.cellAt 0 (by omega)).trans rfl;clear h1 h2 h3 hown;go_wp2;go_ret;exact⟨bf HV.out.symm,hbel⟩
end Go.Proofs.YtkmcengmglgdeaaGreatDoor
