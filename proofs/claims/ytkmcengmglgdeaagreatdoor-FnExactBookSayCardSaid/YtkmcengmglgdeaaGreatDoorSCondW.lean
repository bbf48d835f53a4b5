/- Joined texts: CondW, Let. -/
import Derived.Test.YtkmcengmglgdeaaGreatDoorSCondT
import Derived.Test.YtkmcengmglgdeaaGreatDoorSRun
import Derived.Test.YtkmcengmglgdeaaGreatDoorSNum
import Derived.Test.YtkmcengmglgdeaaGreatDoorSLaid
import Derived.Test.YtkmcengmglgdeaaGreatDoorSActT
import Derived.Test.YtkmcengmglgdeaaGreatDoorSActR
import Derived.Test.YtkmcengmglgdeaaGreatDoorSEq
import Derived.Lib.UnsafeStr

namespace Go.Proofs.YtkmcengmglgdeaaGreatDoor
set_option linter.unusedVariables false
set_option linter.unusedSimpArgs false
set_option maxRecDepth 100000
set_option maxHeartbeats 8000000
open Go.ChangeShapes Go.WideShapes Go.ChangeAt Go.RowKit
theorem aar:tJ Tryz.prog 209 185 .nilIface 1 16:=⟨Tryz.underlying209,info_parts (by kernel_rfl),rfl,by omega⟩
def conds (st:List Cond):List Value:=st.reverse.map Cond.val
theorem nD (a:Cond) (r:List Cond):conds (a::r)=conds r++[a.val]:=by simp[conds]
theorem lN (st:List Cond):(conds st).length=st.length:=by simp[conds]
theorem zH (a:Cond) (r:List Cond):(conds (a::r))[r.length]? =some a.val:=by
 rw[nD,List.getElem?_append_right (by rw[lN];omega),lN];simp
theorem GU (a v:Cond) (r:List Cond):(conds (a::r)).set r.length v.val=conds (v::r):=by
 rw[nD,nD,List.set_append_right _ _ (by rw[lN];omega),lN];simp
theorem Si (a b2 v:Cond) (r:List Cond):((conds (a::b2::r)).set r.length v.val).take ((r.length+1)*1)=conds (v::r):=by
 rw[nD a,List.set_append_left _ _ (by rw[lN];simp),GU,Nat.mul_one,List.take_append_of_le_length (by rw[lN];simp),dJ (by rw[lN];simp)]
theorem Je {st:List Cond} {x:Int} {d':Nat} (h:gJ st.length x=some d'):(gq st x).length=d':=by
 unfold gJ at h
 unfold gq
 by_cases h1:x<0∨9<x
 ·rw[if_pos h1] at h;cases h
 rw[if_neg h1] at h
 by_cases h2:x≤6
 ·rw[if_pos h2] at h ⊢;injection h
 rw[if_neg h2] at h ⊢
 by_cases h3:x=7
 ·rw[if_pos h3] at h ⊢
  match st,h with
  |p::r,h=>simpa using h
  | [],h=>simp at h
 rw[if_neg h3] at h ⊢
 match st,h with
 |b::a::r,h=>simpa using h
 | [_],h=>simp at h
 | [],h=>simp at h
theorem Bh (A:Option Addr) (n c:Nat) (xs:List Int) (w:World) (h:iO .i64 w w.heap.size A n c xs) (hok:codeOk xs=true):
  Calls Tryz.prog 192 #[.slice A n c] w fun e w'=>e= .returned (lH xs).val∧Below w.heap.size w w':=by
 have hl:=h.len;obtain⟨hn1,hn2,hfin⟩:=(iV xs).1 hok;rw[hl] at hn1 hn2;have HL:=af hl;have HAT:=af (yX xs hok);have jH:=af hfin;clear hl hfin hok;go_enter Tryz.func192,Tryz.ntmps192;go_wp2
 go_loopw [9,3] (fun i v wr=>∃(k d:Nat) (st:List Cond),k≤n∧d≤k∧i= .int .i64 k∧Hid (st.length=d∧jM [] (xs.take k)=st∧jm 0 (xs.take k)=some d)∧wr.ownsRow w.heap.size 185 1 v d (conds st)∧Below w.heap.size w wr) (fun i _ _=>n-(intOf i).toNat)
 case atStart=>exact⟨0,0,[],by omega,by omega,rfl,af ⟨rfl,rfl,rfl⟩,World.ownsRow_nil w _ _ 1,ai _ _⟩
 case round=>
  obtain⟨k,d,st,hk,hd,rfl,HST,hown,hbel⟩:=hrel;have hsz:=hbel.size;obtain⟨C,cc,rfl⟩:=dS hown
  by_cases hlt:k<n
  ·obtain⟨b,off,x,rfl,hb,hx,hw,hc⟩:=h.get hlt;have hcr:wr.cell? ⟨b,off+k,none⟩=some (.int .i64 x):=(aC hbel b _ hb).trans hc;obtain⟨d0,hd0,-,hstep⟩:=HAT.out k (by rw[HL.out];exact hk);obtain⟨d',hd'⟩:=hstep x hx
   have hdd:d0=d:=by
    have:=hd0.symm.trans HST.out.2.2
    injection this
   rw[hdd] at hd';have yL:Hid ((gq st x).length=d'∧jM [] (xs.take (k+1))=gq st x∧jm 0 (xs.take (k+1))=some d'):=af ⟨Je (by rw[HST.out.1];exact hd'),by rw[I7 xs k x hx,HST.out.2.1],by have h1:=(qI xs k x hx d HST.out.2.2).1;rw[h1];exact hd'⟩;have vM:=af hd';have hlen:=HST.out.1;clear hx hd0 hstep hd' hdd hc HST
   by_cases hlow:x≤6
   ·have hx0:0≤x:=by
     rcases Int.lt_or_le x 0 with h | h
     ·have:=vM.out;rw[kD d x (.inl h)] at this;cases this
     ·exact h
    have HD2:Hid (d'=d+1):=af (by have:=vM.out;rw[jZ d x hx0 hlow] at this;injection this with this;exact this.symm);have HES:Hid (gq st x= .one x::st):=af (by unfold gq;rw[if_pos hlow]);have e7:(x == 7)=false:=beq_false_of_ne (by omega);have e8:(x == 8)=false:=beq_false_of_ne (by omega);have e9:(x == 9)=false:=beq_false_of_ne (by omega);clear hlen hlow hx0
    go_wp2_with (at_builtin;refine dX aar rfl _ _ rfl w.heap.size _ d _ rfl (hown.alloc _) _ _ 1 1 [.iface 202 (.agg #[.int .i64 x])] rfl (bQ.new wr [.iface 202 (.agg #[.int .i64 x])] 185 1 1 rfl (by unfold maxLen;omega)) (by simp[Value.oneCell']) (by omega) (by omega) (by simp;omega) ?_;intro v5 w5 hown5 hg5 EC)
    have hb5:Below w.heap.size w w5:=(hbel.alloc hsz _).grown hg5 (by simp;omega) (fun k hk=>by have:=(hown.lt k hk).1;omega);have ho5:w5.ownsRow w.heap.size 185 1 v5 (d+1) (conds (gq st x)):=by rw[HES.out,nD];exact hown5
    clear hown5 hg5 EC;go_wp2
    go_roundw
    case rel=>exact⟨k+1,d+1,_,by omega,by omega,by go_num,af (by rw[←HD2.out];exact yL.out),ho5,hb5⟩
    case measure=>simp[intOf];omega
   by_cases h7:x=7
   ·subst h7
    have h1:1≤d:=by
     rcases Nat.lt_or_ge d 1 with h | h
     ·have:=vM.out;rw[oM d (by omega)] at this;cases this
     ·exact h
    have HD2:Hid (d'=d):=af (by have:=vM.out;rw[qJ d h1] at this;injection this with this;exact this.symm)
    obtain⟨a,r,rfl⟩:∃a r,st=a::r:=by
     match st,hlen with
     | [],h=>simp at h;omega
     |a::r,_=>exact⟨a,r,rfl⟩
    obtain⟨q,rfl⟩:∃q,d=q+1:=⟨d-1,by omega⟩;have hrq:r.length=q:=by simpa using hlen
    subst hrq;obtain⟨g,cap,hv,hg,hcap,hcapm⟩:=kZ hown (by omega);simp only[Value.slice.injEq] at hv;obtain⟨rfl,-,rfl⟩:=hv
    unfold maxLen at hcapm
    obtain⟨at_,ad,hav⟩:=a.kz;have c0:wr.cell? ⟨g,r.length,none⟩=some (.iface at_ ad):=(hown.cellAt r.length (by omega)).trans (by rw[←hav];exact zH a r);have f0:wr.frozen? ⟨g,r.length,none⟩=false:=hown.frozenAt r.length
    have HO:Hid ((wr.setCell ⟨g,r.length,none⟩ (.iface 204 (.agg #[.iface at_ ad]))).ownsRow w.heap.size 185 1 (.slice (some ⟨g,0,none⟩) (r.length+1) cc) (r.length+1) (conds (gq (a::r) 7))):=af (by
     have h1:=(hown.stored r.length (Cond.turn a).val).1;rw[GU] at h1;simp only[Cond.val,hav] at h1
     exact h1)
    clear hlen hown h1 hav hlow;go_wp2
    go_roundw
    case rel=>exact⟨k+1,r.length+1,_,by omega,by omega,by go_num,af (by have:=yL.out;rw[HD2.out] at this;exact this),HO.out,hbel.setCell hg _⟩
    case measure=>simp[intOf];omega
   have h89:x=8∨x=9:=by
    rcases Int.lt_or_le 9 x with h' | h'
    ·have:=vM.out;rw[kD d x (.inr h')] at this;cases this
    omega
   have h2:2≤d:=by
    rcases Nat.lt_or_ge d 2 with h | h
    ·have:=vM.out;rw[lu d x (by omega) (by omega) (by omega)] at this;cases this
    ·exact h
   have HD2:Hid (d'=d-1):=af (by have:=vM.out;rw[mZ d x (by omega) (by omega) h2] at this;injection this with this;exact this.symm);have HCS:Hid (∀p q r,gq (p::q::r) x= .join x q p::r):=af (by intro p q r;unfold gq;rw[if_neg hlow,if_neg h7])
   obtain⟨a,b2,r,rfl⟩:∃a b2 r,st=a::b2::r:=by
    match st,hlen with
    | [],h=>simp at h;omega
    | [_],h=>simp at h;omega
    |a::b2::r,_=>exact⟨a,b2,r,rfl⟩
   obtain⟨q,rfl⟩:∃q,d=q+2:=⟨d-2,by omega⟩;have hrq:r.length=q:=by simpa using hlen
   subst hrq;obtain⟨g,cap,hv,hg,hcap,hcapm⟩:=kZ hown (by omega);simp only[Value.slice.injEq] at hv;obtain⟨rfl,-,rfl⟩:=hv
   unfold maxLen at hcapm
   obtain⟨at_,ad,hav⟩:=a.kz;obtain⟨bt_,bd,hbv⟩:=b2.kz;have c1:wr.cell? ⟨g,r.length+1,none⟩=some (.iface at_ ad):=(hown.cellAt (r.length+1) (by omega)).trans (by rw[←hav];exact zH a (b2::r));have c0:wr.cell? ⟨g,r.length,none⟩=some (.iface bt_ bd):=(hown.cellAt r.length (by omega)).trans (by rw[nD,List.getElem?_append_left (by rw[lN];simp),←hbv];exact zH b2 r);have f0:wr.frozen? ⟨g,r.length,none⟩=false:=hown.frozenAt r.length
   have HO:Hid ((wr.setCell ⟨g,r.length,none⟩ (.iface 208 (.agg #[.int .i64 x,.iface bt_ bd,.iface at_ ad]))).ownsRow w.heap.size 185 1 (.slice (some ⟨g,0,none⟩) (r.length+1) cc) (r.length+1) (conds (gq (a::b2::r) x))):=af (by
    have h1:=(hown.stored r.length (Cond.join x b2 a).val).1;have h2:=BV (m:=r.length+1) h1 (by omega) (by omega);rw[Si] at h2;simp only[Cond.val,hav,hbv] at h2;rw[HCS.out]
    exact h2)
   clear hlen hown h2 hav hbv hlow h7 HCS
   rcases h89 with rfl | rfl
   ·go_upto_region 12 with(fail)
    go_region
    all_goals
     go_wp2
     go_roundw
     case rel=>exact⟨k+1,r.length+1,_,by omega,by omega,by go_num,af (by have:=yL.out;rw[HD2.out] at this;exact this),HO.out,(hbel.setCell (p:=⟨g,r.length,none⟩) hg _).drew⟩
     case measure=>simp[intOf];omega
   ·go_upto_region 12 with(fail)
    go_region
    all_goals
     go_wp2
     go_roundw
     case rel=>exact⟨k+1,r.length+1,_,by omega,by omega,by go_num,af (by have:=yL.out;rw[HD2.out] at this;exact this),HO.out,(hbel.setCell (p:=⟨g,r.length,none⟩) hg _).drew⟩
     case measure=>simp[intOf];omega
  ·have hkn:k=n:=by omega
   subst hkn;obtain⟨h1,h2,h3⟩:=HST.out;rw[←HL.out,List.take_length] at h2 h3;have hd1:d=1:=by have:=h3.symm.trans jH.out;injection this
   subst hd1
   obtain⟨a,rfl⟩:∃a,st=[a]:=by
    match st,h1 with
    | [a],_=>exact⟨a,rfl⟩
   have HV:Hid (lH xs=a):=af (by unfold lH;rw[h2];rfl);obtain⟨g,cap,hv,hg,hcap,hcapm⟩:=kZ hown (by omega);simp only[Value.slice.injEq] at hv;obtain⟨rfl,-,rfl⟩:=hv;obtain⟨at_,ad,hav⟩:=a.kz;have c0:wr.cell? ⟨g,0,none⟩=some (.iface at_ ad):=(hown.cellAt 0 (by omega)).trans (by rw[←hav];rfl);have HAV:=Bx.mk hav;clear h1 h2 h3 hown hav;go_wp2;go_ret;exact⟨by rw[HV.out,HAV.out];rfl,hbel⟩
theorem wu (A:Option Addr) (n c:Nat) (xs:List Int) (w:World) (h:iO .i64 w w.heap.size A n c xs):
  Calls Tryz.prog 165 #[.slice A n c] w fun e w'=>e= .returned (.string ⟨(jF xs).toArray⟩)∧Below w.heap.size w w':=by
 cases hok:codeOk xs with
 |false=>
  have HT:Hid (jF xs=[]):=af (by unfold jF;rw[hok];rfl);go_enter Tryz.func165,Tryz.ntmps165
  go_wp2_with fail
  refine(dN A n c xs _ h).mono ?_;rw[hok];rintro e w1 ⟨rfl,rfl⟩;go_wp2;go_ret;exact⟨dh (a:=⟨#[]⟩) (by rw[HT.out]),ai _ _⟩
 |true=>
  have HT:Hid (jF xs=(lH xs).text 0):=af (by unfold jF;rw[hok];rfl);have HG:=af (uQ hok);have HLN:Hid (xs.length≤40):=af ((iV xs).1 hok).2.1;have H:=af h;have bC:=af hok;clear h hok;go_enter Tryz.func165,Tryz.ntmps165
  go_wp2_with fail
  refine(dN A n c xs _ H.out).mono ?_;rw[bC.out];rintro e w1 ⟨rfl,rfl⟩
  go_wp2_with fail
  refine(Bh A n c xs _ H.out bC.out).mono ?_;rintro e w2 ⟨rfl,hb2⟩;have HB2:=af hb2;clear hb2;obtain⟨ct,cd,hcv⟩:=(lH xs).kz;have HCV:=Bx.mk hcv;rw[hcv];clear hcv
  go_wp2_with fail
  rw[←HCV.out];refine(yG _ HG.out.2.1 (by rw[HG.out.2.2];have:=HLN.out;omega) _).mono ?_;rintro e w3 ⟨rfl,hb3⟩;have HB3:=af (HB2.out.trans (hb3.mono HB2.out.size));clear hb3;go_wp2;go_ret;exact⟨dh (by rw[HT.out]),HB3.out⟩
theorem GI {k:Nat} (h:k<5):((UInt8.ofNat (97+k)).toNat:Int)=97+(k:Int):=by
 rw[UInt8.toNat_ofNat']
 omega
theorem aah:tJ Tryz.prog 22 5 (.int .u8 0) 1 1:=⟨Tryz.underlying22,info_parts (by kernel_rfl),rfl,by omega⟩
theorem Vr {w:World} {base cap n:Nat} {A:Option Addr} {l:List UInt8} (h:w.ownsRow base 5 1 (.slice A n cap) n (Lib.byteCells l)) (hn:n=l.length) (h0:l≠[]):
  (convert 22 9 (.slice A n cap)).run Tryz.prog w= .ok (.string ⟨l.toArray⟩) w:=by
 subst hn;obtain⟨g,c,hv,-⟩:=kZ h (List.length_pos_iff.2 h0);simp only[Value.slice.injEq] at hv;obtain⟨rfl,-,rfl⟩:=hv;refine run_convert_bytes_back w 22 9 5 ⟨g,0,none⟩ cap l Tryz.underlying22 Tryz.underlying5 Tryz.underlying9 fun j hj=>?_
 have h1:=h.cellAt j (by omega);have h2:(Lib.byteCells l)[j]? =some (.int .u8 (l[j].toNat:Int)):=by simp[Lib.byteCells,hj]
 rw[h2] at h1
 have e:(⟨g,0,none⟩:Addr).add j=⟨g,j,none⟩:=by
  cases j with
  |zero=>rfl
  |succ j=>simp[Addr.add]
 rw[e];exact h1
theorem iG (n:Nat) (hn:n<32) (w:World):
  Calls Tryz.prog 113 #[.int .i64 (n:Int)] w fun e w'=>e= .returned (.string ⟨(fP n).toArray⟩)∧Below w.heap.size w w':=by
 by_cases h0:n=0
 ·subst h0;go_enter Tryz.func113,Tryz.ntmps113;go_wp2;go_ret;exact⟨rfl,ai _ _⟩
 have HT:Hid (fP n=qR n 5):=af (by unfold fP;rw[if_neg h0]);have V4:Hid (qR n 5≠[]):=af (PO n hn h0);have h0':((n:Int) == 0)=false:=beq_false_of_ne (by omega);clear h0;go_enter Tryz.func113,Tryz.ntmps113;go_wp2;clear h0'
 go_loopw [7,3] (fun i v wr=>∃(k m:Nat),k≤5∧i= .int .i64 k∧m≤k∧Hid (m=(qR n k).length)∧wr.ownsRow w.heap.size 5 1 v m (Lib.byteCells (qR n k))∧Below w.heap.size w wr) (fun i _ _=>5-(intOf i).toNat)
 case atStart=>exact⟨0,0,by omega,rfl,by omega,af rfl,World.ownsRow_nil w _ _ 1,ai _ _⟩
 case round=>
  obtain⟨k,m,hk,rfl,hm,HM,hown,hbel⟩:=hrel;have hsz:=hbel.size;obtain⟨C,cc,rfl⟩:=dS hown
  by_cases hlt:k<5
  ·have hbit:=and_one n k (by omega)
   by_cases hb1:bit n k=1
   ·rw[hb1] at hbit;have HN:=af (La hb1);have HL:=af (GI hlt);clear hb1
    go_wp2_with (at_builtin;refine dX aah rfl _ _ rfl w.heap.size _ m _ rfl (hown.alloc _) _ _ 1 1 [.int .u8 (97+(k:Int))] rfl (bQ.new wr [.int .u8 (97+(k:Int))] 5 1 1 rfl (by unfold maxLen;omega)) (by simp[Value.oneCell']) (by omega) (by omega) (by simp;omega) ?_;intro v5 w5 hown5 hg5 EC)
    have hb5:Below w.heap.size w w5:=(hbel.alloc hsz _).grown hg5 (by simp;omega) (fun k hk=>by have:=(hown.lt k hk).1;omega);have ho5:w5.ownsRow w.heap.size 5 1 v5 (m+1) (Lib.byteCells (qR n (k+1))):=by rw[HN.out,Lib.byteCells_append];simp only[Lib.byteCells,List.map_cons,List.map_nil,HL.out] at hown5 ⊢;exact hown5
    clear hown5 hg5 EC;go_wp2
    go_roundw
    case rel=>exact⟨k+1,m+1,by omega,by go_num,by omega,af (by rw[HN.out,HM.out];simp),ho5,hb5⟩
    case measure=>simp[intOf];omega
   ·have hb0:bit n k=0:=by have:=jI n k;omega
    rw[hb0] at hbit;have HN:=af (PN hb0);clear hb1 hb0;go_wp2
    go_roundw
    case rel=>exact⟨k+1,m,by omega,by go_num,by omega,af (by rw[HN.out];exact HM.out),by rw[HN.out];exact hown,hbel⟩
    case measure=>simp[intOf];omega
  ·obtain rfl:k=5:=by omega
   have hcv:=Vr hown HM.out V4.out;clear hown;go_wp2;go_ret;exact⟨dh (by rw[HT.out]),hbel⟩
theorem Bd (s:ByteArray) (w:World):
  Calls Tryz.prog 171 #[.string s] w fun e w'=>e= .returned (.tuple #[.int .i64 ((sW s.data.toList).getD 0:Nat),.bool (sW s.data.toList).isSome])∧Below w.heap.size w w':=by
 obtain⟨o,ho⟩:∃x,sW s.data.toList=x:=⟨_,rfl⟩;rw[ho];go_enter Tryz.func171,Tryz.ntmps171;go_wp2
 go_loopw [5] (fun i wr=>∃k:Nat,k≤32∧i= .int .i64 k∧Hid (∀j,j<k→fP j≠s.data.toList)∧Below w.heap.size w wr) (fun i _=>32-(intOf i).toNat)
 case atStart=>exact⟨0,by omega,rfl,af (by omega),ai _ _⟩
 case round=>
  obtain⟨k,hk,rfl,HN,hbel⟩:=hrel;have HB:=af hbel;have HO:=Bx.mk ho;clear hbel
  by_cases hlt:k<32
  ·go_wp2_with fail
   refine(iG k hlt _).mono ?_;rintro e w1 ⟨rfl,hb⟩;have HB1:=af (HB.out.trans (hb.mono HB.out.size));clear hb;obtain⟨q,hq⟩:∃q:ByteArray,(⟨(fP k).toArray⟩:ByteArray)=q:=⟨_,rfl⟩;have VP:q.toList=fP k:=by rw[←hq,Lib.toList_data]
   rw[hq]
   by_cases he:fP k=s.data.toList
   ·have hne:(q.toList == s.toList)=true:=by rw[VP,Lib.toList_data,he];simp
    have HV:Hid (o=some k):=af (by rw[←HO.out,←he,Lc k hlt]);clear he hq VP;go_wp2;exact bodyPost_ret (v:=.tuple #[.int .i64 (k:Int),.bool true]) (by simp[results,Tryz.results171,go_sem]) rfl ⟨by rw[HV.out];rfl,HB1.out⟩
   ·have hne:(q.toList == s.toList)=false:=by rw[VP,Lib.toList_data];exact beq_false_of_ne he
    have JS:Hid (∀j,j<k+1→fP j≠s.data.toList):=af fun j hj=>by
     rcases Nat.lt_or_ge j k with h | h
     ·exact HN.out j h
     ·obtain rfl:j=k:=by omega
      exact he
    clear he hq VP;go_wp2
    go_roundw
    case rel=>exact⟨k+1,by omega,by go_num,JS,HB1.out⟩
    case measure=>simp[intOf];omega
  ·have HV:Hid (o=none):=af (by
    rw[←HO.out]
    cases h:sW s.data.toList with
    |none=>rfl
    |some j=>
     obtain⟨h1,h2⟩:=qQ h
     exact absurd h2 (HN.out j (by omega)))
   go_wp2;exact bodyPost_ret (v:=.tuple #[.int .i64 0,.bool false]) (by simp[results,Tryz.results171,go_sem]) rfl ⟨by rw[HV.out];rfl,HB.out⟩
theorem jr (n:Nat) (hn:n<32) (w:World):
  Calls Tryz.prog 59 #[.int .i64 (n:Int)] w fun e w'=>e= .returned (.string ⟨(fP n).toArray⟩)∧Below w.heap.size w w':=by
 have HT:Hid (n≠0→fP n=qR n 5):=af (fun h0=>by unfold fP;rw[if_neg h0]);have V4:Hid (n≠0→qR n 5≠[]):=af (fun h0=>PO n hn h0);go_enter Tryz.func59,Tryz.ntmps59;go_wp2
 go_loopw [4,3] (fun i v wr=>∃(k:Nat) (q:ByteArray),k≤5∧i= .int .i64 k∧v= .string q∧q.size≤k∧Hid (q=⟨(qR n k).toArray⟩)∧Below w.heap.size w wr) (fun i _ _=>5-(intOf i).toNat)
 case atStart=>exact⟨0,⟨#[]⟩,by omega,rfl,rfl,by decide,af rfl,ai _ _⟩
 case round=>
  obtain⟨k,q,hk,rfl,rfl,hq,HQ,hbel⟩:=hrel;have HB:=af hbel;clear hbel
  by_cases hlt:k<5
  ·by_cases hb1:bit n k=1
   ·have HN:=af (La hb1);have HL:=af (GI hlt);have h1:¬9223372036854775807<q.size+1:=by omega
    go_wp2_with fail
    refine(jO n k (by omega) _).mono ?_;rw[hb1];rintro e w1 ⟨rfl,rfl⟩
    have hcv:(convert 22 9 (.slice (some ⟨wr.heap.size,0,none⟩) 1 1)).run Tryz.prog (wr.alloc (.cells #[.int .u8 (97+(k:Int))] 5))= .ok (.string ⟨[UInt8.ofNat (97+k)].toArray⟩) (wr.alloc (.cells #[.int .u8 (97+(k:Int))] 5)):=
     qP _ _ _ (by rw[HL.out];exact(iJ.new wr 5 #[.int .u8 (97+(k:Int))]).cell 0)
    obtain⟨u,hu⟩:∃u,UInt8.ofNat (97+k)=u:=⟨_,rfl⟩;rw[hu] at hcv;have YF:Hid (q++⟨[u].toArray⟩=⟨(qR n (k+1)).toArray⟩):=af (by rw[HQ.out,HN.out,iw,hu]);have HZ:Hid ((q++⟨[u].toArray⟩).size≤k+1):=af (by rw[ByteArray.size_append];have:(⟨[u].toArray⟩:ByteArray).size=1:=rfl;omega);clear hu;clear hb1;go_wp2
    go_roundw
    case rel=>exact⟨k+1,_,by omega,by go_num,rfl,HZ.out,YF,HB.out.alloc HB.out.size _⟩
    case measure=>simp[intOf];omega
   ·have hb0:bit n k=0:=by have:=jI n k;omega
    have HN:=af (PN hb0)
    go_wp2_with fail
    refine(jO n k (by omega) _).mono ?_;rw[hb0];rintro e w1 ⟨rfl,rfl⟩;clear hb1 hb0;go_wp2
    go_roundw
    case rel=>exact⟨k+1,q,by omega,by go_num,rfl,by omega,af (by rw[HN.out];exact HQ.out),HB.out⟩
    case measure=>simp[intOf];omega
  ·obtain rfl:k=5:=by omega
   by_cases h0:n=0
   ·subst h0;have hqe:q=⟨#[]⟩:=HQ.out;subst hqe;go_wp2;go_ret;exact⟨rfl,HB.out⟩
   ·have hb:q.toList.isEmpty=false:=by
     rw[Lib.toList_data,HQ.out]
     have:=V4.out h0
     cases h:qR n 5 with
     |nil=>exact absurd h this
     |cons x y=>rfl
    have HV:Hid (q=⟨(fP n).toArray⟩):=af (by rw[HT.out h0];exact HQ.out);clear h0;go_wp2;go_ret;exact⟨dh HV.out,HB.out⟩
def OH (s:List UInt8):Int:=match sW s with | some n=>(n:Int) | none=>-1
theorem RX (s:ByteArray) (w:World):
  Calls Tryz.prog 132 #[.string s] w fun e w'=>e= .returned (.int .i64 (OH s.data.toList))∧Below w.heap.size w w':=by
 obtain⟨o,ho⟩:∃x,OH s.data.toList=x:=⟨_,rfl⟩;rw[ho];go_enter Tryz.func132,Tryz.ntmps132;go_wp2
 go_loopw [3] (fun i wr=>∃k:Nat,k≤32∧i= .int .i64 k∧Hid (∀j,j<k→fP j≠s.data.toList)∧Below w.heap.size w wr) (fun i _=>32-(intOf i).toNat)
 case atStart=>exact⟨0,by omega,rfl,af (by omega),ai _ _⟩
 case round=>
  obtain⟨k,hk,rfl,HN,hbel⟩:=hrel;have HB:=af hbel;have HO:=Bx.mk ho;clear hbel
  by_cases hlt:k<32
  ·go_wp2_with fail
   refine(jr k hlt _).mono ?_;rintro e w1 ⟨rfl,hb⟩;have HB1:=af (HB.out.trans (hb.mono HB.out.size));clear hb;obtain⟨q,hq⟩:∃q:ByteArray,(⟨(fP k).toArray⟩:ByteArray)=q:=⟨_,rfl⟩;have VP:q.toList=fP k:=by rw[←hq,Lib.toList_data]
   rw[hq]
   by_cases he:fP k=s.data.toList
   ·have hne:(q.toList == s.toList)=true:=by rw[VP,Lib.toList_data,he];simp
    have HV:Hid (o=(k:Int)):=af (by rw[←HO.out,←he];unfold OH;rw[Lc k hlt]);clear he hq VP;go_wp2;go_ret;exact⟨aG HV.out.symm,HB1.out⟩
   ·have hne:(q.toList == s.toList)=false:=by rw[VP,Lib.toList_data];exact beq_false_of_ne he
    have JS:Hid (∀j,j<k+1→fP j≠s.data.toList):=af fun j hj=>by
     rcases Nat.lt_or_ge j k with h | h
     ·exact HN.out j h
     ·obtain rfl:j=k:=by omega
      exact he
    clear he hq VP;go_wp2
    go_roundw
    case rel=>exact⟨k+1,by omega,by go_num,JS,HB1.out⟩
    case measure=>simp[intOf];omega
  ·have HV:Hid (o= -1):=af (by
    rw[←HO.out]
    unfold OH
    cases h:sW s.data.toList with
    |none=>rfl
    |some j=>
     obtain⟨h1,h2⟩:=qQ h
     exact absurd h2 (HN.out j (by omega)))
   go_wp2;go_ret;exact⟨aG HV.out.symm,HB.out⟩
end Go.Proofs.YtkmcengmglgdeaaGreatDoor
