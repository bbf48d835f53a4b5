/- Joined texts: ActR, CutS, ActRS. -/
import Derived.Test.YtkmcengmglgdeaaGreatDoorSActT
import Derived.ShutString
import Derived.Test.YtkmcengmglgdeaaGreatDoorSPerm
import Derived.Test.YtkmcengmglgdeaaGreatDoorSDraw
import Derived.Test.YtkmcengmglgdeaaGreatDoorSEndActs
import Derived.Test.YtkmcengmglgdeaaGreatDoorSShortI
import Derived.Deep.Cut

namespace Go.Proofs.YtkmcengmglgdeaaGreatDoor
set_option linter.unusedVariables false
set_option linter.unusedSimpArgs false
set_option maxRecDepth 100000
set_option maxHeartbeats 8000000
open Go.ChangeShapes Go.WideShapes Go.ChangeAt Go.RowKit
def aeo (o:Option (Int×Int)):Value:=.agg #[.int .i64 (o.getD (0,0)).1,.int .i64 (o.getD (0,0)).2]
def XE (o:Option (Int×Int)) (e:Ending):Prop:=e= .returned (.tuple #[aeo o,.bool o.isSome])
theorem XE.form {o:Option (Int×Int)} {e:Ending} (h:XE o e):∃k n b,e= .returned (.tuple #[.agg #[.int .i64 k,.int .i64 n],.bool b])∧k=(o.getD (0,0)).1∧n=(o.getD (0,0)).2∧b=o.isSome:=⟨_,_,_,h,rfl,rfl,rfl⟩
theorem ba_eq {s:ByteArray} {l:List UInt8} (h:s.data.toList=l):s=⟨l.toArray⟩:=acL h
theorem SE {s:List UInt8} (h1:s≠qP) (h2:s≠endW) (h3:(KE++[32]).isPrefixOf s=true):readA s=(rH (s.drop 3)).map fun(n:Nat)=>((0:Int),(n:Int)):=by
 unfold readA;rw[if_neg h1,if_neg h2,if_pos h3]
theorem Md {s:List UInt8} (h1:s≠qP) (h2:s≠endW) (h3:(KE++[32]).isPrefixOf s=false) (h4:(o5++[32]).isPrefixOf s=true):readA s=(rH (s.drop 5)).map fun(n:Nat)=>((1:Int),(n:Int)):=by
 unfold readA;rw[if_neg h1,if_neg h2,if_neg (by rw[h3];simp),if_pos h4]
theorem Me {s:List UInt8} (h1:s≠qP) (h2:s≠endW) (h3:(KE++[32]).isPrefixOf s=false) (h4:(o5++[32]).isPrefixOf s=false):readA s=none:=by
 unfold readA;rw[if_neg h1,if_neg h2,if_neg (by rw[h3];simp),if_neg (by rw[h4];simp)]
theorem oq (s p:ByteArray) (t:List UInt8) (w:World) (h:s.data.toList=p.data.toList++t):
  Calls Tryz.prog 108 #[.string s,.string p] w fun e w'=>e= .returned (.tuple #[.string ⟨t.toArray⟩,.bool true])∧w=w':=by
 have h1:Lib.hasPrefix s.data.toList p.data.toList=true:=by
  unfold Lib.hasPrefix;rw[List.isPrefixOf_iff_prefix];exact⟨t,h.symm⟩
 have h2:Lib.trimPrefix s.data.toList p.data.toList=t:=by
  unfold Lib.trimPrefix;rw[if_pos h1,h];simp
 refine(wX s p w).mono ?_;rintro e w' ⟨rfl,rfl⟩;rw[h1,h2];exact⟨rfl,rfl⟩
theorem pI (s p:ByteArray) (w:World) (h:p.data.toList.isPrefixOf s.data.toList=false):
  Calls Tryz.prog 108 #[.string s,.string p] w fun e w'=>e= .returned (.tuple #[.string s,.bool false])∧w=w':=by
 have h1:Lib.hasPrefix s.data.toList p.data.toList=false:=h
 have h2:Lib.trimPrefix s.data.toList p.data.toList=s.data.toList:=by
  unfold Lib.trimPrefix;rw[if_neg (by rw[h1];simp)]
 refine(wX s p w).mono ?_;rintro e w' ⟨rfl,rfl⟩;rw[h1,h2,Lib.mk_data];exact⟨rfl,rfl⟩
theorem sZ (s:ByteArray) (w:World) (hs:s.size≤9223372036854775807):
  Calls Tryz.prog 46 #[.string s] w fun e w'=>XE (readA s.data.toList) e∧Below w.heap.size w w':=by
 by_cases h1:s.data.toList=qP
 ·obtain rfl:=ba_eq h1;clear h1 hs;go_enter Tryz.func46,Tryz.ntmps46;go_wp2;exact bodyPost_ret (v:=.tuple #[.agg #[.int .i64 2,.int .i64 0],.bool true]) (by simp[results,Tryz.results46,go_sem]) rfl ⟨rfl,(ai _ _).alloc (aA _) _⟩
 by_cases h2:s.data.toList=endW
 ·obtain rfl:=ba_eq h2;clear h1 h2 hs;go_enter Tryz.func46,Tryz.ntmps46;go_wp2;exact bodyPost_ret (v:=.tuple #[.agg #[.int .i64 3,.int .i64 0],.bool true]) (by simp[results,Tryz.results46,go_sem]) rfl ⟨rfl,(ai _ _).alloc (aA _) _⟩
 have b1:(s.toList == [115,104,111,114,116])=false:=by
  rw[dH,Lib.toList_data];intro h;exact h1 (beq_iff_eq.1 h)
 have b2:(s.toList == [101,110,100])=false:=by
  rw[dH,Lib.toList_data];intro h;exact h2 (beq_iff_eq.1 h)
 have hsl:=Lib.size_eq s
 cases h3:(KE++[32]).isPrefixOf s.data.toList with
 |true=>
  have HR:=af (SE h1 h2 h3);have HP:=af (yS h3);have HT:Hid ((⟨(s.data.toList.drop 3).toArray⟩:ByteArray).size≤9223372036854775807):=af (by rw[size_of_list,List.length_drop];omega);clear h1 h2 h3 hsl hs;go_enter Tryz.func46,Tryz.ntmps46
  go_wp2_with fail
  refine(oq s _ (s.data.toList.drop 3) _ HP.out).mono ?_;rintro e w' ⟨rfl,rfl⟩
  go_wp2_with fail
  refine(nD ⟨(s.data.toList.drop 3).toArray⟩ 2 _ (by omega) HT.out).mono ?_;rintro e w' ⟨hn,rfl⟩
  unfold VB at hn
  rw[CU,BB] at hn
  cases h4:rH (s.data.toList.drop 3) with
  |none=>
   rw[h4] at hn HR;subst hn;clear h4;go_wp2;exact bodyPost_ret (v:=.tuple #[.agg #[.int .i64 0,.int .i64 0],.bool false]) (by simp[results,Tryz.results46,go_sem]) rfl ⟨by rw[HR.out];rfl,(ai _ _).alloc (aA _) _⟩
  |some m=>
   rw[h4] at hn HR;subst hn;clear h4;go_wp2;exact bodyPost_ret (v:=.tuple #[.agg #[.int .i64 0,.int .i64 m],.bool true]) (by simp[results,Tryz.results46,go_sem]) rfl ⟨by rw[HR.out];rfl,(ai _ _).alloc (aA _) _⟩
 |false=>
  cases h5:(o5++[32]).isPrefixOf s.data.toList with
  |true=>
   have HR:=af (Md h1 h2 h3 h5);have HP:=af (yS h5);have HN:=af h3;have HT:Hid ((⟨(s.data.toList.drop 5).toArray⟩:ByteArray).size≤9223372036854775807):=af (by rw[size_of_list,List.length_drop];omega);clear h1 h2 h3 h5 hsl hs;go_enter Tryz.func46,Tryz.ntmps46
   go_wp2_with fail
   refine(pI s _ _ HN.out).mono ?_;rintro e w' ⟨rfl,rfl⟩
   go_wp2_with fail
   refine(oq s _ (s.data.toList.drop 5) _ HP.out).mono ?_;rintro e w' ⟨rfl,rfl⟩
   go_wp2_with fail
   refine(nD ⟨(s.data.toList.drop 5).toArray⟩ 2 _ (by omega) HT.out).mono ?_;rintro e w' ⟨hn,rfl⟩
   unfold VB at hn
   rw[CU,BB] at hn
   cases h4:rH (s.data.toList.drop 5) with
   |none=>
    rw[h4] at hn HR;subst hn;clear h4;go_wp2;exact bodyPost_ret (v:=.tuple #[.agg #[.int .i64 0,.int .i64 0],.bool false]) (by simp[results,Tryz.results46,go_sem]) rfl ⟨by rw[HR.out];rfl,(ai _ _).alloc (aA _) _⟩
   |some m=>
    rw[h4] at hn HR;subst hn;clear h4;go_wp2;exact bodyPost_ret (v:=.tuple #[.agg #[.int .i64 1,.int .i64 m],.bool true]) (by simp[results,Tryz.results46,go_sem]) rfl ⟨by rw[HR.out];rfl,(ai _ _).alloc (aA _) _⟩
  |false=>
   have HR:=af (Me h1 h2 h3 h5);have HN:=af h3;have HN':=af h5;clear h1 h2 h3 h5 hsl hs;go_enter Tryz.func46,Tryz.ntmps46
   go_wp2_with fail
   refine(pI s _ _ HN.out).mono ?_;rintro e w' ⟨rfl,rfl⟩
   go_wp2_with fail
   refine(pI s _ _ HN'.out).mono ?_;rintro e w' ⟨rfl,rfl⟩;go_wp2;exact bodyPost_ret (v:=.tuple #[.agg #[.int .i64 0,.int .i64 0],.bool false]) (by simp[results,Tryz.results46,go_sem]) rfl ⟨by rw[HR.out];rfl,(ai _ _).alloc (aA _) _⟩
def strs (ws:List (List UInt8)):List Value:=ws.map fun l=>.string ⟨l.toArray⟩
theorem oQ (ws:List (List UInt8)):(strs ws).length=ws.length:=by simp[strs]
theorem KA (ws us:List (List UInt8)):strs (ws++us)=strs ws++strs us:=by simp[strs]
theorem AB:qE Tryz.prog 43 9 (.string .empty) 1 16:=⟨Tryz.underlying43,info_parts (by kernel_rfl),rfl,by omega⟩
def bP (v:Value) (ws:List (List UInt8)):dh:=rRow 9 1 v ws.length (strs ws)
theorem St.Df {w wr w':World} {L:List dh} {v v':Value} {ws:List (List UInt8)} {l:List UInt8} {cs:Array Value} (S:St w wr (bP v ws::L))
  (hown:w'.ownsRow w.heap.size 9 1 v' (ws.length+1) (strs ws++[.string ⟨l.toArray⟩])) (hg:(wr.alloc (.cells cs 9)).grownBy w' v.ownBlock)
  (hat:v'.ownBlock=v.ownBlock∨v'.ownBlock=some (wr.alloc (.cells cs 9)).heap.size):St w w' (bP v' (ws++[l])::L):=by
 have:=((S.alloc1 cs 9).rid 1 rfl).app 0 rfl hown hg hat
 have e:bP v' (ws++[l])=rRow 9 1 v' (ws.length+1) (strs ws++[.string ⟨l.toArray⟩]):=by unfold bP;rw[KA,bQ];rfl
 rw[e];exact this
theorem SY {c:UInt8} {s:ByteArray} {k:Nat} (h:k<s.size) (hc:s[k].toNat=c.toNat) (cur:List UInt8):fQ c cur (s.data.toList.drop k)=cur::fQ c [] (s.data.toList.drop (k+1)):=by
 rw[drop_at s k h];simp only[fQ];rw[if_pos (UInt8.toNat_inj.1 hc)]
theorem XI {c:UInt8} {s:ByteArray} {k:Nat} (h:k<s.size) (hc:s[k].toNat≠c.toNat) (cur:List UInt8):fQ c cur (s.data.toList.drop k)=fQ c (cur++[s[k]]) (s.data.toList.drop (k+1)):=by
 rw[drop_at s k h];simp only[fQ];rw[if_neg (fun e=>hc (by rw[e]))]
theorem VH {c:UInt8} {s:ByteArray} {k:Nat} (h:s.size≤k) (cur:List UInt8):fQ c cur (s.data.toList.drop k)=[cur]:=by
 rw[drop_end s k h];rfl
theorem O7 {s:ByteArray} {f k:Nat} (hf:f≤k) (h:k<s.size):(s.data.toList.drop f).take (k+1-f)=(s.data.toList.drop f).take (k-f)++[s[k]]:=by
 rw[show k+1-f=(k-f)+1 by omega,List.take_succ_eq_append_getElem (by rw[List.length_drop,←Lib.size_eq];omega)]
 congr 2
 rw[List.getElem_drop];have:f+(k-f)=k:=by omega
 simp only[this]
 rfl
theorem vC (s:ByteArray) (c:UInt8) (w:World) (hs:s.size≤1099511627776):
  Calls Tryz.prog 119 #[.string s,.int .u8 c.toNat] w fun e w'=>∃v,e= .returned v∧St w w' [bP v (fQ c [] s.data.toList)]:=by
 obtain⟨cn,hcn⟩:∃cn:Nat,c.toNat=cn:=⟨_,rfl⟩;have HC:=af hcn;rw[hcn];clear hcn
 have aS:Hid (St w (w.alloc (.cells #[] 9)) [bP (.slice (some ⟨w.heap.size,0,none⟩) 0 0) []]):=af ((St.new1 w #[] 9).see fun F hF _=>by
  obtain⟨hb,rfl⟩:=hF
  exact⟨World.ownsRow_lit w #[] 0 (Nat.zero_le _) (by unfold maxLen;omega) rfl,rfl⟩)
 go_enter Tryz.func119,Tryz.ntmps119;go_wp2
 go_loopw [5,6,7] (fun o f i wr=>∃(k fr:Nat) (ws:List (List UInt8)),k≤s.size∧fr≤k∧ws.length≤k∧i= .int .i64 k∧f= .int .i64 fr∧Hid (fQ c [] s.data.toList=ws++fQ c ((s.data.toList.drop fr).take (k-fr)) (s.data.toList.drop k))∧St w wr [bP o ws]) (fun _ _ i _=>s.size-(intOf i).toNat)
 case atStart=>exact⟨0,0,[],by omega,by omega,by simp,rfl,rfl,af (by simp),aS.out⟩
 case round=>
  clear aS;obtain⟨k,fr,ws,hk,hfk,hwl,rfl,rfl,hcut,S⟩:=hrel;have HS:=af S;clear S;have HO:=af (HS.out.row 0 rfl);have ZI:=HS.out.size
  by_cases hlt:k<s.size
  ·have hb:s[k].toNat<256:=UInt8.toNat_lt _
   by_cases hc:s[k].toNat=cn
   ·have HX:Hid (s.extract fr k=⟨((s.data.toList.drop fr).take (k-fr)).toArray⟩):=af (Lib.extract_eq s fr k)
    have HW:Hid (fQ c [] s.data.toList=(ws++[(s.data.toList.drop fr).take (k-fr)])++fQ c ((s.data.toList.drop (k+1)).take (k+1-(k+1))) (s.data.toList.drop (k+1))):=af (by
     rw[hcut.out,SY hlt (by rw[hc,HC.out])];simp)
    have hc1:((s[k].toNat:Int) == (cn:Int))=true:=by simp[hc]
    have c1:(0:Int)≤(fr:Int):=by omega
    have c2:(fr:Int)≤(k:Int):=by omega
    have c3:(k:Int)≤(s.size:Int):=by omega
    clear hc
    go_wp2_with (at_builtin;refine cZ AB rfl (.tmp 20) (.tmp 25) rfl w.heap.size _ _ _ rfl (HO.out.alloc _) _ _ 1 1 [.string (s.extract fr k)] rfl (bJ.new wr [.string (s.extract fr k)] 9 1 1 rfl (by unfold maxLen;omega)) (by simp[Value.oneCell']) (by omega) (by omega) (by simp;omega) ?_;intro v2 w2 hown2 hg2 ug;have HS2:=af (HS.out.Df (l:=(s.data.toList.drop fr).take (k-fr)) (by rw[←HX.out];exact hown2) hg2 ug);clear hown2 hg2 ug)
    go_wp2
    go_roundw
    case rel=>exact⟨k+1,k+1,_,by omega,by omega,by simp;omega,by go_num,by go_num,HW,HS2.out⟩
    case measure=>simp[intOf];omega
   ·have HW:Hid (fQ c [] s.data.toList=ws++fQ c ((s.data.toList.drop fr).take (k+1-fr)) (s.data.toList.drop (k+1))):=af (by
     rw[hcut.out,XI hlt (by rw[HC.out];exact hc),O7 hfk hlt])
    have hc1:((s[k].toNat:Int) == (cn:Int))=false:=by simp;omega
    clear hc;go_wp2
    go_roundw
    case rel=>exact⟨k+1,fr,ws,by omega,by omega,by omega,by go_num,rfl,HW,HS.out⟩
    case measure=>simp[intOf];omega
  ·have hke:k=s.size:=by omega
   have HX:Hid (s.extract fr s.size=⟨((s.data.toList.drop fr).take (k-fr)).toArray⟩):=af (by rw[hke];exact Lib.extract_eq s fr s.size)
   have HW:Hid (fQ c [] s.data.toList=ws++[(s.data.toList.drop fr).take (k-fr)]):=af (by
    rw[hcut.out,VH (by omega)])
   have c1:(0:Int)≤(fr:Int):=by omega
   have c3:(fr:Int)≤(s.size:Int):=by omega
   clear hke
   go_wp2_with (at_builtin;refine cZ AB rfl (.tmp 29) (.tmp 33) rfl w.heap.size _ _ _ rfl (HO.out.alloc _) _ _ 1 1 [.string (s.extract fr s.size)] rfl (bJ.new wr [.string (s.extract fr s.size)] 9 1 1 rfl (by unfold maxLen;omega)) (by simp[Value.oneCell']) (by omega) (by omega) (by simp;omega) ?_;intro v2 w2 hown2 hg2 ug;have HS2:=af (HS.out.Df (l:=(s.data.toList.drop fr).take (k-fr)) (by rw[←HX.out];exact hown2) hg2 ug);clear hown2 hg2 ug)
   go_wp2;go_ret;exact⟨_,rfl,by rw[HW.out];exact HS2.out⟩
def dA (a:Int×Int):iP:=⟨a.1,a.2⟩
def dL (l:List (Int×Int)):List iP:=l.map dA
theorem VG (l:List (Int×Int)):(dL l).length=l.length:=by simp[dL]
theorem SQ {s x0 x1:List UInt8} (h:fQ 32 [] s=[x0,x1]):lC s=[(2,0),(3,0),(0,kH x1),(1,kH x1)]:=by unfold lC;rw[h]
theorem SS {s:List UInt8} (h:(fQ 32 [] s).length≠2):lC s=[(2,0),(3,0)]:=by
 unfold lC
 match hc:fQ 32 [] s with
 | []=>rfl
 | [_]=>rfl
 | [_,_]=>rw[hc] at h;exact absurd rfl h
 |_::_::_::_=>rfl
theorem SV (s:List UInt8):(lC s).length≤4:=by
 unfold lC
 split<;>simp
theorem Ah {w:World} {base:Nat} {e:TypeId} {size n c:Nat} {A:Option Addr} {cells:List Value} (h:w.ownsRow base e size (.slice A n c) n cells) (hn:0<n):∃g,A=some ⟨g,0,none⟩:=by
 rcases h.2 with⟨hv,hz⟩ | ⟨g,cap,cur,hv,-⟩
 ·omega
 ·simp only[Value.slice.injEq] at hv;exact⟨g,hv.1⟩
theorem O6 {s:List UInt8} {l:List (Int×Int)} {k:Nat} {a:Int×Int} (h:l[k]? =some a):tY s (l.drop k)=if s≠[]∧lS a.1 a.2=s then some a else tY s (l.drop (k+1)):=by
 obtain⟨hk,rfl⟩:=bI.1 h;rw[List.drop_eq_getElem_cons hk]
 rfl
theorem Ey (c:UInt8) (s cur:List UInt8):(fQ c cur s).length≤s.length+1:=by
 induction s generalizing cur with
 |nil=>simp[fQ]
 |cons a t ih=>
  simp only[fQ]
  split
  ·have:=ih [];simp;omega
  ·have:=ih (cur++[a]);simp;omega
theorem vz (c:UInt8) (s cur:List UInt8):∀x∈fQ c cur s,x.length≤cur.length+s.length:=by
 induction s generalizing cur with
 |nil=>simp[fQ]
 |cons a t ih=>
  intro x hx;simp only[fQ] at hx
  split at hx
  ·rcases List.mem_cons.1 hx with rfl | hx
   ·simp
   ·have:=ih [] x hx;simp at this ⊢;omega
  ·have:=ih (cur++[a]) x hx;simp at this ⊢;omega
theorem Jm (s:ByteArray) (w:World) (hs:s.size≤1099511627776):
  Calls Tryz.prog 52 #[.string s] w fun e w'=>XE (readA s.data.toList) e∧Below w.heap.size w w':=by
 have aS:Hid (St w ((w.alloc (.cells #[.int .i64 0,.int .i64 0] 64)).alloc (.cells #[.int .i64 2,.int .i64 0,.int .i64 3,.int .i64 0] 64)) [ah w.heap.size 64 #[.int .i64 0,.int .i64 0],rRow 64 2 (.slice (some ⟨w.heap.size+1,0,none⟩) 2 2) 2 [.int .i64 2,.int .i64 0,.int .i64 3,.int .i64 0]]):=af (by
  have h1:=(((St.refl w).alloc #[.int .i64 0,.int .i64 0] 64).alloc #[.int .i64 2,.int .i64 0,.int .i64 3,.int .i64 0] 64);refine((h1.bring 1 rfl).see (R:=rRow 64 2 (.slice (some ⟨w.heap.size+1,0,none⟩) 2 2) 2 [.int .i64 2,.int .i64 0,.int .i64 3,.int .i64 0]) fun F hF _=>?_).swap2;obtain⟨hb,rfl⟩:=hF;have hz:(w.alloc (.cells #[.int .i64 0,.int .i64 0] 64)).heap.size=w.heap.size+1:=by simp
  rw[hz] at hb ⊢
  exact⟨⟨rfl,.inr ⟨_,2,_,rfl,Nat.zero_le _,hb,aA _,by unfold maxLen;omega,rfl,rfl⟩⟩,rfl⟩)
 have Zh:=af hs;obtain⟨l,hl⟩:∃l,s.data.toList=l:=⟨_,rfl⟩;have HL:=af hl
 have HW1:Hid (∀x∈fQ 32 [] l,(⟨x.toArray⟩:ByteArray).size≤9223372036854775807):=af (fun x hx=>by
  have:=vz 32 l [] x hx
  rw[size_of_list];rw[←hl,←Lib.size_eq] at this
  simp at this;omega)
 rw[hl];clear hs hl;go_enter Tryz.func52,Tryz.ntmps52
 go_wp2_with fail
 refine(vC s 32 _ Zh.out).mono ?_;rintro e w2 ⟨v2,rfl,s2⟩;obtain⟨g1,hg1⟩:∃g,w.heap.size+1=g:=⟨_,rfl⟩;obtain⟨A2,c2,rfl,-⟩:=s2.oD 0 rfl
 have HS2:Hid (St w w2 [ah w.heap.size 64 #[.int .i64 0,.int .i64 0],rRow 64 2 (.slice (some ⟨g1,0,none⟩) 2 2) 2 [.int .i64 2,.int .i64 0,.int .i64 3,.int .i64 0],bP (.slice A2 (fQ 32 [] l).length c2) (fQ 32 [] l)]):=af (by
  rw[←hg1,←HL.out];exact aS.out.call s2)
 clear s2 aS;rw[HL.out]
 try rw[hg1]
 clear hg1;obtain⟨n,hn⟩:∃n,(fQ 32 [] l).length=n:=⟨_,rfl⟩;have HN:=af hn;rw[hn] at HS2;rw[hn];clear hn
 go_upto_if 14 with(fail)
 go_cut [4] (fun s4 wx=>∃A n c,s4= .slice A n c∧St w wx [ah w.heap.size 64 #[.int .i64 0,.int .i64 0],iG s4 (dL (lC l))])
 case first=>
  by_cases h2:n=2
  ·subst h2
   obtain⟨x0,x1,hx⟩:∃x0 x1,fQ 32 [] l=[x0,x1]:=by
    match h:fQ 32 [] l,HN.out with
    | [a,b],_=>exact⟨a,b,rfl⟩
   have HX1:Hid ((⟨x1.toArray⟩:ByteArray).size≤9223372036854775807):=af (HW1.out x1 (by rw[hx];simp));obtain⟨d,hd⟩:∃d,kH x1=d:=⟨_,rfl⟩;have HD:=af hd;have HLA:Hid (lC l=[(2,0),(3,0),(0,d),(1,d)]):=af (by rw[SQ hx,hd]);have XH:=HS2.out;rw[hx] at XH;obtain⟨bw,rfl⟩:=Ah (XH.row 2 rfl) (by omega);have cu:Hid (St w w2 [ah w.heap.size 64 #[.int .i64 0,.int .i64 0],rRow 64 2 (.slice (some ⟨g1,0,none⟩) 2 2) 2 [.int .i64 2,.int .i64 0,.int .i64 3,.int .i64 0],rRow 9 1 (.slice (some ⟨bw,0,none⟩) 2 c2) 2 [.string ⟨x0.toArray⟩,.string ⟨x1.toArray⟩]]):=af XH;clear XH HS2 hd hx HN HW1 HL Zh
   go_upto_region 4 with(fail)
   refine kG (σ:=Nat×Option Addr×Nat)
    (fun s i=>match i with
     |0=>.slice (some ⟨g1,0,none⟩) 2 2
     |1=>.slice (some ⟨bw,0,none⟩) 2 c2
     |2=>.pointer (some ⟨bw,1,none⟩)
     |3=>.string ⟨x1.toArray⟩
     |4=>.int .i64 d
     |5=>.agg #[.int .i64 0,.int .i64 d]
     |6=>.slice (some ⟨bw,0,none⟩) 2 c2
     |7=>.pointer (some ⟨bw,1,none⟩)
     |8=>.string ⟨x1.toArray⟩
     |9=>.int .i64 d
     |10=>.agg #[.int .i64 1,.int .i64 d]
     |11=>.slice (some ⟨s.1,0,none⟩) 2 2
     |12=>.slice s.2.1 4 s.2.2
     |13=>.slice s.2.1 4 s.2.2
     |_=>undef)
    (fun D s wx=>Sn w wx fun i=>match i with
     |0=>some (ah w.heap.size 64 #[.int .i64 0,.int .i64 0])
     |1=>some (rRow 64 2 (if D 12=true then .slice s.2.1 4 s.2.2 else .slice (some ⟨g1,0,none⟩) 2 2) (if D 12=true then 4 else 2) (if D 12=true then [.int .i64 2,.int .i64 0,.int .i64 3,.int .i64 0]++[.int .i64 0,.int .i64 d,.int .i64 1,.int .i64 d] else [.int .i64 2,.int .i64 0,.int .i64 3,.int .i64 0]))
     |2=>some (rRow 9 1 (.slice (some ⟨bw,0,none⟩) 2 c2) 2 [.string ⟨x0.toArray⟩,.string ⟨x1.toArray⟩])
     |3=>if D 11=true then some (ah s.1 64 #[.int .i64 0,.int .i64 d,.int .i64 1,.int .i64 d]) else none
     |_=>none)
    (0,none,0) ?_ ?_ ?_
   ·intro D hD;refine((Sn.dN cu.out).quiet ((ai _ _).drew)).congr fun i=>?_
    match i with
    |0=>rfl
    |1=>simp only[hD 12 (by decide)];rfl
    |2=>rfl
    |3=>simp only[hD 11 (by decide)];rfl
    |q+4=>rfl
   ·refine Cs (fun D s wx hR hDi hd hsh _ hs K hK=>?_) ?_
    ·have m13:D 13=false:=hsh.no hDi 13 rfl ⟨0,.phase⟩ (by simp) rfl rfl;have e4:=hs.before 13 4 (u:=.slice (some ⟨g1,0,none⟩) 2 2) rfl m13 (by kernel_rfl) rfl;clear hs;go_simp;exact hK s wx sv hR
    refine Cs (fun D s wx hR _ hd _ _ hs K hK=>?_) ?_
    ·have e5:=hs.o 5 (.slice (some ⟨bw,0,none⟩) 2 c2);clear hs;go_simp;exact hK s wx sv hR
    refine Cs (fun D s wx hR _ hd _ _ hs K hK=>?_) ?_
    ·have e16:=hs.v 1 16 hd;clear hs;go_simp;exact hK s wx sv hR
    refine Cs (fun D s wx hR _ hd _ _ hs K hK=>?_) ?_
    ·have e17:=hs.v 2 17 hd;clear hs;have c0:wx.cell? ⟨bw,1,none⟩=some (.string ⟨x1.toArray⟩):=((hR.row 2 (v:=.slice (some ⟨bw,0,none⟩) 2 c2) (n:=2) (cells:=[.string ⟨x0.toArray⟩,.string ⟨x1.toArray⟩]) rfl).cells rfl 1 _ rfl);go_simp;exact hK s wx sv hR
    refine Cs (fun D s wx hR _ hd _ _ hs K hK=>?_) ?_
    ·have e18:=hs.v 3 18 hd;have g18:=aX e18;clear hs;go_simp;refine(tu ⟨x1.toArray⟩ wx HX1.out).mono ?_;rintro e2 w2 ⟨rfl,rfl⟩;have hd:=HD.out;rw[CU,hd];exact hK s wx sv hR
    refine Cs (fun D s wx hR _ hd _ _ hs K hK=>?_) ?_
    ·have e19:=hs.v 4 19 hd;have g19:=aX e19;clear hs;go_simp;exact hK s wx sv hR
    refine Cs (fun D s wx hR _ hd _ _ hs K hK=>?_) ?_
    ·have e5:=hs.o 5 (.slice (some ⟨bw,0,none⟩) 2 c2);clear hs;go_simp;exact hK s wx sv hR
    refine Cs (fun D s wx hR _ hd _ _ hs K hK=>?_) ?_
    ·have e21:=hs.v 6 21 hd;clear hs;go_simp;exact hK s wx sv hR
    refine Cs (fun D s wx hR _ hd _ _ hs K hK=>?_) ?_
    ·have e22:=hs.v 7 22 hd;clear hs;have c0:wx.cell? ⟨bw,1,none⟩=some (.string ⟨x1.toArray⟩):=((hR.row 2 (v:=.slice (some ⟨bw,0,none⟩) 2 c2) (n:=2) (cells:=[.string ⟨x0.toArray⟩,.string ⟨x1.toArray⟩]) rfl).cells rfl 1 _ rfl);go_simp;exact hK s wx sv hR
    refine Cs (fun D s wx hR _ hd _ _ hs K hK=>?_) ?_
    ·have e23:=hs.v 8 23 hd;have g23:=aX e23;clear hs;go_simp;refine(tu ⟨x1.toArray⟩ wx HX1.out).mono ?_;rintro e2 w2 ⟨rfl,rfl⟩;have hd:=HD.out;rw[CU,hd];exact hK s wx sv hR
    refine Cs (fun D s wx hR _ hd _ _ hs K hK=>?_) ?_
    ·have e24:=hs.v 9 24 hd;have g24:=aX e24;clear hs;go_simp;exact hK s wx sv hR
    refine Cs (fun D s wx hR (hDi:D 11=false) hd hsh _ hs K hK=>?_) ?_
    ·have e20:=hs.v 5 20 hd;have e25:=hs.v 10 25 hd;have g20:=aX e20;have g25:=aX e25;clear hs;have n12:D 12=false:=hsh.no hDi 12 rfl ⟨11,.data⟩ (by simp) rfl rfl;have n13:D 13=false:=hsh.no n12 13 rfl ⟨12,.data⟩ (by simp) rfl rfl;go_simp
     refine hK (wx.heap.size,s.2) _
      (fun j hj=>by
       match j,hj with
       |0,hj | 1,hj | 2,hj | 3,hj | 4,hj | 5,hj | 6,hj | 7,hj | 8,hj | 9,hj | 10,hj=>rfl
       |11,hj=>rw[hDi] at hj;cases hj
       |12,hj=>rw[n12] at hj;cases hj
       |13,hj=>rw[n13] at hj;cases hj
       |_+14,hj=>rfl)
      ((hR.add 3 (if_neg (by rw[hDi];simp)) (St.new1 wx #[.int .i64 0,.int .i64 d,.int .i64 1,.int .i64 d] 64)).congr
       (fun i=>by
        match i with
        |0 | 1 | 2 | 3=>rfl
        |q+4=>exact(if_neg (show¬(q+4=3) by omega)).symm))
    refine Cs (fun D s wx hR (hDi:D 12=false) hd hsh _ hs K hK=>?_) ?_
    ·have e15:=hs.v 0 15 hd;have e26:=hs.v 11 26 hd;have g15:=aX e15;have g26:=aX e26;clear hs;have n13:D 13=false:=hsh.no hDi 13 rfl ⟨12,.data⟩ (by simp) rfl rfl;have d11:D 11=true:=hd ⟨11,.data⟩ (by simp) rfl;have ho:=hR.row 1 (e:=64) (size:=2) (v:=.slice (some ⟨g1,0,none⟩) 2 2) (n:=2) (cells:=[.int .i64 2,.int .i64 0,.int .i64 3,.int .i64 0]) (by simp only[hDi];rfl);have kb:fU wx s.1 64 [.int .i64 0,.int .i64 d,.int .i64 1,.int .i64 d].toArray:=hR.blk 3 (if_pos d11);have hsz:=hR.below.size;refine ni qi (.tmp 15) (.tmp 26) rfl w.heap.size _ 2 _ e15 ho _ _ 2 2 _ e26 (bJ.IB kb 2 2 rfl (by unfold maxLen;omega)) (by simp[Value.oneCell']) (by omega) (by omega) hsz ?_;intro v' w' hown hg hat;obtain⟨A4,c4,hv⟩:=dR hown;subst hv
     refine hK (s.1,A4,c4) w'
      (fun j hj=>by
       match j,hj with
       |0,hj | 1,hj | 2,hj | 3,hj | 4,hj | 5,hj | 6,hj | 7,hj | 8,hj | 9,hj | 10,hj | 11,hj=>rfl
       |12,hj=>rw[hDi] at hj;cases hj
       |13,hj=>rw[n13] at hj;cases hj
       |_+14,hj=>rfl)
      ((hR.app 1 (v:=.slice (some ⟨g1,0,none⟩) 2 2) (n:=2) (cells:=[.int .i64 2,.int .i64 0,.int .i64 3,.int .i64 0]) (by simp only[hDi];rfl) hown hg hat).congr
       (fun i=>by
        match i with
        |0 | 1 | 2 | 3=>rfl
        |q+4=>exact(if_neg (show¬(q+4=1) by omega)).symm))
    refine Cs (fun D s wx hR _ hd _ _ hs K hK=>?_) ?_
    ·have e27:=hs.v 12 27 hd;clear hs;go_simp;exact hK s wx sv hR
    exact aj.nil
   ·intro D s wx hR hD;simp only[eH,Act.put,aO,aU,aW];obtain⟨s1,A4,c4⟩:=s;have fH:Hid (St w wx [ah w.heap.size 64 #[.int .i64 0,.int .i64 0],rRow 64 2 (.slice A4 4 c4) 4 ([.int .i64 2,.int .i64 0,.int .i64 3,.int .i64 0]++[.int .i64 0,.int .i64 d,.int .i64 1,.int .i64 d])]):=af (hR.eG [0,1] (by decide) (by simp only[List.map,hD 12 (by decide)]<;>rfl));clear hR hD cu;go_wp2
    go_meet
    case rel=>exact⟨A4,4,c4,rfl,by rw[HLA.out];exact fH.out⟩
  ·have h2':((n:Int) == 2)=false:=by simp;omega
   have HLA:Hid (dL (lC l)=[⟨2,0⟩,⟨3,0⟩]):=af (by rw[SS (by rw[HN.out];exact h2)];rfl);clear h2;go_wp2
   go_meet
   case rel=>exact⟨_,_,_,rfl,by rw[HLA.out];exact HS2.out.pick [0,1] (by decide) rfl rfl⟩
 case rest=>
  obtain⟨A,m,c,rfl,SC⟩:=hcut;have dX:=af SC;clear SC;obtain⟨n4,hn4⟩:∃k,(dL (lC l)).length=k:=⟨_,rfl⟩;have zY:=af (dX.out.Xq 1 rfl);obtain rfl:m=n4:=zY.out.1.symm.trans hn4;have hm4:m≤4:=by rw[←hn4,VG];exact SV l
  have HM:=af hn4;clear hn4 HS2 HN HW1;go_wp2
  go_loopw [6] (fun i wr=>∃k:Nat,k≤m∧i= .int .i64 k∧Hid (tY l ((lC l).drop k)=readA l)∧St w wr [ah w.heap.size 64 #[.int .i64 0,.int .i64 0],iG (.slice A m c) (dL (lC l))]) (fun i _=>m-(intOf i).toNat)
  case atStart=>exact⟨0,by omega,rfl,af (by rw[List.drop_zero];exact O5 l),dX.out⟩
  case round=>
   clear dX zY;obtain⟨k,hk,rfl,hfind,S⟩:=hrel;have HS:=af S;clear S;have q0:=HS.out.cells 0 rfl;have f0:=HS.out.free 0 rfl
   by_cases hlt:k<m
   ·obtain⟨b,off,a,rfl,hb,ha,r0,r1⟩:=(HS.out.Xq 1 rfl).get hlt
    obtain⟨a',ha',rfl⟩:∃a',(lC l)[k]? =some a'∧dA a'=a:=by
     unfold dL at ha;rw[List.getElem?_map] at ha;exact Option.map_eq_some_iff.1 ha
    have HF:=af (O6 (s:=l) ha');obtain⟨ak,an⟩:=a';have r0':wr.cell? ⟨b,off+k*2,none⟩=some (.int .i64 ak):=r0;have r1':wr.cell? ⟨b,off+k*2+1,none⟩=some (.int .i64 an):=r1;have HAA:=af ha;clear ha ha' r0 r1
    by_cases he:l=[]
    ·have HE:Hid (tY l ((lC l).drop (k+1))=readA l):=af (by rw[←hfind.out,HF.out,if_neg (fun h=>h.1 he)]);have b0:s.toList.isEmpty=true:=by rw[Lib.toList_data,HL.out,he];rfl
     clear he;go_wp2
     go_roundw
     case rel=>exact⟨k+1,by omega,by go_num,HE,HS.out⟩
     case measure=>simp[intOf];omega
    ·have b0:s.toList.isEmpty=false:=by rw[Lib.toList_data,HL.out];cases h:l with | nil=>exact absurd h he | cons x y=>rfl
     go_wp2_with fail
     refine(yw ak an _).mono ?_;rintro e w3 ⟨rfl,hb3⟩;have cu:=af (HS.out.quiet hb3);clear hb3 q0 f0 r0' r1';have q0:=cu.out.cells 0 rfl;have f0:=cu.out.free 0 rfl
     by_cases hm:lS ak an=l
     ·have HE:Hid (readA l=some (ak,an)):=af (by rw[←hfind.out,HF.out,if_pos ⟨he,hm⟩]);have Zv:Hid ((⟨(lS ak an).toArray⟩:ByteArray)=s):=af (by rw[hm,←HL.out]);rw[Zv.out];obtain⟨b',off',a2,hA,hb',ha2,r0,r1⟩:=(cu.out.Xq 1 rfl).get hlt;simp only[Option.some.injEq,Addr.mk.injEq,and_true] at hA;obtain⟨rfl,rfl⟩:=hA;obtain rfl:a2=dA (ak,an):=by have:=ha2.symm.trans HAA.out;injection this
      have r0':w3.cell? ⟨b,off+k*2,none⟩=some (.int .i64 ak):=r0;have r1':w3.cell? ⟨b,off+k*2+1,none⟩=some (.int .i64 an):=r1;clear r0 r1 ha2 hm he;go_wp2;refine bodyPost_ret (v:=.tuple #[.agg #[.int .i64 ak,.int .i64 an],.bool true]) (by simp[results,Tryz.results52,go_sem,q0]) rfl ⟨by rw[HE.out];rfl,?_⟩;exact((cu.out.set 0 rfl 0 _).set 0 rfl 1 _).below
     ·have HE:Hid (tY l ((lC l).drop (k+1))=readA l):=af (by rw[←hfind.out,HF.out,if_neg (fun h=>hm h.2)]);obtain⟨q,hq⟩:∃q:ByteArray,(⟨(lS ak an).toArray⟩:ByteArray)=q:=⟨_,rfl⟩
      have hne:(q.toList == s.toList)=false:=by
       rw[dH,Lib.toList_data,Lib.toList_data,HL.out,←hq];intro h;exact hm (beq_iff_eq.1 h)
      rw[hq];clear hq hm he;go_wp2
      go_roundw
      case rel=>exact⟨k+1,by omega,by go_num,HE,cu.out⟩
      case measure=>simp[intOf];omega
   ·have hke:k=m:=by omega
    have HE:Hid (readA l=none):=af (by
     rw[←hfind.out,List.drop_eq_nil_of_le (by rw[←VG,HM.out];omega)];rfl)
    clear hke;go_wp2;refine bodyPost_ret (v:=.tuple #[.agg #[.int .i64 0,.int .i64 0],.bool false]) (by simp[results,Tryz.results52,go_sem,q0]) rfl ⟨by rw[HE.out];rfl,?_⟩;exact((HS.out.set 0 rfl 0 (.int .i64 0)).set 0 rfl 1 (.int .i64 0)).below
end Go.Proofs.YtkmcengmglgdeaaGreatDoor
