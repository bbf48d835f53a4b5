/- Joined texts: ActR, CutS, ActRS. -/
import Derived.Test.YtkmcengmglgdeaaGreatDoorSActT
import Derived.ShutString
import Derived.Test.YtkmcengmglgdeaaGreatDoorSPerm
import Derived.Test.YtkmcengmglgdeaaGreatDoorSDraw
import Derived.Test.YtkmcengmglgdeaaGreatDoorSEndActs
import Derived.Test.YtkmcengmglgdeaaGreatDoorSShortI
import Derived.Deep.Cut

namespace Go.Proofs.YtkmcengmglgdeaaGreatDoor
set_option linter.unusedVariables false
set_option linter.unusedSimpArgs false
set_option maxRecDepth 100000
set_option maxHeartbeats 8000000
open Go.ChangeShapes Go.WideShapes Go.ChangeAt Go.RowKit
def adI (o:Option (Int×Int)):Value:=.agg #[.int .i64 (o.getD (0,0)).1,.int .i64 (o.getD (0,0)).2]
def WW (o:Option (Int×Int)) (e:Ending):Prop:=e= .returned (.tuple #[adI o,.bool o.isSome])
theorem WW.form {o:Option (Int×Int)} {e:Ending} (h:WW o e):∃k n b,e= .returned (.tuple #[.agg #[.int .i64 k,.int .i64 n],.bool b])∧k=(o.getD (0,0)).1∧n=(o.getD (0,0)).2∧b=o.isSome:=⟨_,_,_,h,rfl,rfl,rfl⟩
theorem ba_eq {s:ByteArray} {l:List UInt8} (h:s.data.toList=l):s=⟨l.toArray⟩:=abV h
theorem Q7 {s:List UInt8} (h1:s≠rX) (h2:s≠endW) (h3:(Mc++[32]).isPrefixOf s=true):readA s=(qN (s.drop 3)).map fun(n:Nat)=>((0:Int),(n:Int)):=by
 unfold readA;rw[if_neg h1,if_neg h2,if_pos h3]
theorem KH {s:List UInt8} (h1:s≠rX) (h2:s≠endW) (h3:(Mc++[32]).isPrefixOf s=false) (h4:(o8++[32]).isPrefixOf s=true):readA s=(qN (s.drop 5)).map fun(n:Nat)=>((1:Int),(n:Int)):=by
 unfold readA;rw[if_neg h1,if_neg h2,if_neg (by rw[h3];simp),if_pos h4]
theorem KI {s:List UInt8} (h1:s≠rX) (h2:s≠endW) (h3:(Mc++[32]).isPrefixOf s=false) (h4:(o8++[32]).isPrefixOf s=false):readA s=none:=by
 unfold readA;rw[if_neg h1,if_neg h2,if_neg (by rw[h3];simp),if_neg (by rw[h4];simp)]
theorem nK (s p:ByteArray) (t:List UInt8) (w:World) (h:s.data.toList=p.data.toList++t):
  Calls Tryz.prog 108 #[.string s,.string p] w fun e w'=>e= .returned (.tuple #[.string ⟨t.toArray⟩,.bool true])∧w=w':=by
 have h1:Lib.hasPrefix s.data.toList p.data.toList=true:=by
  unfold Lib.hasPrefix;rw[List.isPrefixOf_iff_prefix];exact⟨t,h.symm⟩
 have h2:Lib.trimPrefix s.data.toList p.data.toList=t:=by
  unfold Lib.trimPrefix;rw[if_pos h1,h];simp
 refine(vY s p w).mono ?_;rintro e w' ⟨rfl,rfl⟩;rw[h1,h2];exact⟨rfl,rfl⟩
theorem oC (s p:ByteArray) (w:World) (h:p.data.toList.isPrefixOf s.data.toList=false):
  Calls Tryz.prog 108 #[.string s,.string p] w fun e w'=>e= .returned (.tuple #[.string s,.bool false])∧w=w':=by
 have h1:Lib.hasPrefix s.data.toList p.data.toList=false:=h
 have h2:Lib.trimPrefix s.data.toList p.data.toList=s.data.toList:=by
  unfold Lib.trimPrefix;rw[if_neg (by rw[h1];simp)]
 refine(vY s p w).mono ?_;rintro e w' ⟨rfl,rfl⟩;rw[h1,h2,Lib.mk_data];exact⟨rfl,rfl⟩
theorem qW (s:ByteArray) (w:World) (hs:s.size≤9223372036854775807):
  Calls Tryz.prog 46 #[.string s] w fun e w'=>WW (readA s.data.toList) e∧Below w.heap.size w w':=by
 by_cases h1:s.data.toList=rX
 ·obtain rfl:=ba_eq h1;clear h1 hs;go_enter Tryz.func46,Tryz.ntmps46;go_wp2;exact bodyPost_ret (v:=.tuple #[.agg #[.int .i64 2,.int .i64 0],.bool true]) (by simp[results,Tryz.results46,go_sem]) rfl ⟨rfl,(ai _ _).alloc (ay _) _⟩
 by_cases h2:s.data.toList=endW
 ·obtain rfl:=ba_eq h2;clear h1 h2 hs;go_enter Tryz.func46,Tryz.ntmps46;go_wp2;exact bodyPost_ret (v:=.tuple #[.agg #[.int .i64 3,.int .i64 0],.bool true]) (by simp[results,Tryz.results46,go_sem]) rfl ⟨rfl,(ai _ _).alloc (ay _) _⟩
 have b1:(s.toList == [115,104,111,114,116])=false:=by
  rw[cO,Lib.toList_data];intro h;exact h1 (beq_iff_eq.1 h)
 have b2:(s.toList == [101,110,100])=false:=by
  rw[cO,Lib.toList_data];intro h;exact h2 (beq_iff_eq.1 h)
 have hsl:=Lib.size_eq s
 cases h3:(Mc++[32]).isPrefixOf s.data.toList with
 |true=>
  have HR:=af (Q7 h1 h2 h3);have HP:=af (x9 h3);have HT:Hid ((⟨(s.data.toList.drop 3).toArray⟩:ByteArray).size≤9223372036854775807):=af (by rw[size_of_list,List.length_drop];omega);clear h1 h2 h3 hsl hs;go_enter Tryz.func46,Tryz.ntmps46
  go_wp2_with fail
  refine(nK s _ (s.data.toList.drop 3) _ HP.out).mono ?_;rintro e w' ⟨rfl,rfl⟩
  go_wp2_with fail
  refine(mO ⟨(s.data.toList.drop 3).toArray⟩ 2 _ (by omega) HT.out).mono ?_;rintro e w' ⟨hn,rfl⟩
  unfold UW at hn
  rw[BD,Aj] at hn
  cases h4:qN (s.data.toList.drop 3) with
  |none=>
   rw[h4] at hn HR;subst hn;clear h4;go_wp2;exact bodyPost_ret (v:=.tuple #[.agg #[.int .i64 0,.int .i64 0],.bool false]) (by simp[results,Tryz.results46,go_sem]) rfl ⟨by rw[HR.out];rfl,(ai _ _).alloc (ay _) _⟩
  |some m=>
   rw[h4] at hn HR;subst hn;clear h4;go_wp2;exact bodyPost_ret (v:=.tuple #[.agg #[.int .i64 0,.int .i64 m],.bool true]) (by simp[results,Tryz.results46,go_sem]) rfl ⟨by rw[HR.out];rfl,(ai _ _).alloc (ay _) _⟩
 |false=>
  cases h5:(o8++[32]).isPrefixOf s.data.toList with
  |true=>
   have HR:=af (KH h1 h2 h3 h5);have HP:=af (x9 h5);have HN:=af h3;have HT:Hid ((⟨(s.data.toList.drop 5).toArray⟩:ByteArray).size≤9223372036854775807):=af (by rw[size_of_list,List.length_drop];omega);clear h1 h2 h3 h5 hsl hs;go_enter Tryz.func46,Tryz.ntmps46
   go_wp2_with fail
   refine(oC s _ _ HN.out).mono ?_;rintro e w' ⟨rfl,rfl⟩
   go_wp2_with fail
   refine(nK s _ (s.data.toList.drop 5) _ HP.out).mono ?_;rintro e w' ⟨rfl,rfl⟩
   go_wp2_with fail
   refine(mO ⟨(s.data.toList.drop 5).toArray⟩ 2 _ (by omega) HT.out).mono ?_;rintro e w' ⟨hn,rfl⟩
   unfold UW at hn
   rw[BD,Aj] at hn
   cases h4:qN (s.data.toList.drop 5) with
   |none=>
    rw[h4] at hn HR;subst hn;clear h4;go_wp2;exact bodyPost_ret (v:=.tuple #[.agg #[.int .i64 0,.int .i64 0],.bool false]) (by simp[results,Tryz.results46,go_sem]) rfl ⟨by rw[HR.out];rfl,(ai _ _).alloc (ay _) _⟩
   |some m=>
    rw[h4] at hn HR;subst hn;clear h4;go_wp2;exact bodyPost_ret (v:=.tuple #[.agg #[.int .i64 1,.int .i64 m],.bool true]) (by simp[results,Tryz.results46,go_sem]) rfl ⟨by rw[HR.out];rfl,(ai _ _).alloc (ay _) _⟩
  |false=>
   have HR:=af (KI h1 h2 h3 h5);have HN:=af h3;have HN':=af h5;clear h1 h2 h3 h5 hsl hs;go_enter Tryz.func46,Tryz.ntmps46
   go_wp2_with fail
   refine(oC s _ _ HN.out).mono ?_;rintro e w' ⟨rfl,rfl⟩
   go_wp2_with fail
   refine(oC s _ _ HN'.out).mono ?_;rintro e w' ⟨rfl,rfl⟩;go_wp2;exact bodyPost_ret (v:=.tuple #[.agg #[.int .i64 0,.int .i64 0],.bool false]) (by simp[results,Tryz.results46,go_sem]) rfl ⟨by rw[HR.out];rfl,(ai _ _).alloc (ay _) _⟩
def strs (ws:List (List UInt8)):List Value:=ws.map fun l=>.string ⟨l.toArray⟩
theorem iT (ws:List (List UInt8)):(strs ws).length=ws.length:=by simp[strs]
theorem Dz (ws us:List (List UInt8)):strs (ws++us)=strs ws++strs us:=by simp[strs]
theorem Js:tJ Tryz.prog 43 9 (.string .empty) 1 16:=⟨Tryz.underlying43,info_parts (by kernel_rfl),rfl,by omega⟩
def dZ (v:Value) (ws:List (List UInt8)):dW:=rRow 9 1 v ws.length (strs ws)
theorem St.He {w wr w':World} {L:List dW} {v v':Value} {ws:List (List UInt8)} {l:List UInt8} {cs:Array Value} (S:St w wr (dZ v ws::L))
  (hown:w'.ownsRow w.heap.size 9 1 v' (ws.length+1) (strs ws++[.string ⟨l.toArray⟩])) (hg:(wr.alloc (.cells cs 9)).grownBy w' v.ownBlock)
  (hat:v'.ownBlock=v.ownBlock∨v'.ownBlock=some (wr.alloc (.cells cs 9)).heap.size):St w w' (dZ v' (ws++[l])::L):=by
 have:=((S.alloc1 cs 9).rid 1 rfl).app 0 rfl hown hg hat
 have e:dZ v' (ws++[l])=rRow 9 1 v' (ws.length+1) (strs ws++[.string ⟨l.toArray⟩]):=by unfold dZ;rw[Dz,bK];rfl
 rw[e];exact this
theorem Rk {c:UInt8} {s:ByteArray} {k:Nat} (h:k<s.size) (hc:s[k].toNat=c.toNat) (cur:List UInt8):eX c cur (s.data.toList.drop k)=cur::eX c [] (s.data.toList.drop (k+1)):=by
 rw[drop_at s k h];simp only[eX];rw[if_pos (UInt8.toNat_inj.1 hc)]
theorem W9 {c:UInt8} {s:ByteArray} {k:Nat} (h:k<s.size) (hc:s[k].toNat≠c.toNat) (cur:List UInt8):eX c cur (s.data.toList.drop k)=eX c (cur++[s[k]]) (s.data.toList.drop (k+1)):=by
 rw[drop_at s k h];simp only[eX];rw[if_neg (fun e=>hc (by rw[e]))]
theorem U2 {c:UInt8} {s:ByteArray} {k:Nat} (h:s.size≤k) (cur:List UInt8):eX c cur (s.data.toList.drop k)=[cur]:=by
 rw[drop_end s k h];rfl
theorem Og {s:ByteArray} {f k:Nat} (hf:f≤k) (h:k<s.size):(s.data.toList.drop f).take (k+1-f)=(s.data.toList.drop f).take (k-f)++[s[k]]:=by
 rw[show k+1-f=(k-f)+1 by omega,List.take_succ_eq_append_getElem (by rw[List.length_drop,←Lib.size_eq];omega)]
 congr 2
 rw[List.getElem_drop];have:f+(k-f)=k:=by omega
 simp only[this]
 rfl
theorem uN (s:ByteArray) (c:UInt8) (w:World) (hs:s.size≤1099511627776):
  Calls Tryz.prog 119 #[.string s,.int .u8 c.toNat] w fun e w'=>∃v,e= .returned v∧St w w' [dZ v (eX c [] s.data.toList)]:=by
 obtain⟨cn,hcn⟩:∃cn:Nat,c.toNat=cn:=⟨_,rfl⟩;have HC:=af hcn;rw[hcn];clear hcn
 have aQ:Hid (St w (w.alloc (.cells #[] 9)) [dZ (.slice (some ⟨w.heap.size,0,none⟩) 0 0) []]):=af ((St.new1 w #[] 9).see fun F hF _=>by
  obtain⟨hb,rfl⟩:=hF
  exact⟨World.ownsRow_lit w #[] 0 (Nat.zero_le _) (by unfold maxLen;omega) rfl,rfl⟩)
 go_enter Tryz.func119,Tryz.ntmps119;go_wp2
 go_loopw [5,6,7] (fun o f i wr=>∃(k fr:Nat) (ws:List (List UInt8)),k≤s.size∧fr≤k∧ws.length≤k∧i= .int .i64 k∧f= .int .i64 fr∧Hid (eX c [] s.data.toList=ws++eX c ((s.data.toList.drop fr).take (k-fr)) (s.data.toList.drop k))∧St w wr [dZ o ws]) (fun _ _ i _=>s.size-(intOf i).toNat)
 case atStart=>exact⟨0,0,[],by omega,by omega,by simp,rfl,rfl,af (by simp),aQ.out⟩
 case round=>
  clear aQ;obtain⟨k,fr,ws,hk,hfk,hwl,rfl,rfl,hcut,S⟩:=hrel;have HS:=af S;clear S;have HO:=af (HS.out.row 0 rfl);have aaG:=HS.out.size
  by_cases hlt:k<s.size
  ·have hb:s[k].toNat<256:=UInt8.toNat_lt _
   by_cases hc:s[k].toNat=cn
   ·have HX:Hid (s.extract fr k=⟨((s.data.toList.drop fr).take (k-fr)).toArray⟩):=af (Lib.extract_eq s fr k)
    have HW:Hid (eX c [] s.data.toList=(ws++[(s.data.toList.drop fr).take (k-fr)])++eX c ((s.data.toList.drop (k+1)).take (k+1-(k+1))) (s.data.toList.drop (k+1))):=af (by
     rw[hcut.out,Rk hlt (by rw[hc,HC.out])];simp)
    have hc1:((s[k].toNat:Int) == (cn:Int))=true:=by simp[hc]
    have c1:(0:Int)≤(fr:Int):=by omega
    have c2:(fr:Int)≤(k:Int):=by omega
    have c3:(k:Int)≤(s.size:Int):=by omega
    clear hc
    go_wp2_with (at_builtin;refine dX Js rfl (.tmp 20) (.tmp 25) rfl w.heap.size _ _ _ rfl (HO.out.alloc _) _ _ 1 1 [.string (s.extract fr k)] rfl (bQ.new wr [.string (s.extract fr k)] 9 1 1 rfl (by unfold maxLen;omega)) (by simp[Value.oneCell']) (by omega) (by omega) (by simp;omega) ?_;intro v2 w2 hown2 hg2 vS;have HS2:=af (HS.out.He (l:=(s.data.toList.drop fr).take (k-fr)) (by rw[←HX.out];exact hown2) hg2 vS);clear hown2 hg2 vS)
    go_wp2
    go_roundw
    case rel=>exact⟨k+1,k+1,_,by omega,by omega,by simp;omega,by go_num,by go_num,HW,HS2.out⟩
    case measure=>simp[intOf];omega
   ·have HW:Hid (eX c [] s.data.toList=ws++eX c ((s.data.toList.drop fr).take (k+1-fr)) (s.data.toList.drop (k+1))):=af (by
     rw[hcut.out,W9 hlt (by rw[HC.out];exact hc),Og hfk hlt])
    have hc1:((s[k].toNat:Int) == (cn:Int))=false:=by simp;omega
    clear hc;go_wp2
    go_roundw
    case rel=>exact⟨k+1,fr,ws,by omega,by omega,by omega,by go_num,rfl,HW,HS.out⟩
    case measure=>simp[intOf];omega
  ·have hke:k=s.size:=by omega
   have HX:Hid (s.extract fr s.size=⟨((s.data.toList.drop fr).take (k-fr)).toArray⟩):=af (by rw[hke];exact Lib.extract_eq s fr s.size)
   have HW:Hid (eX c [] s.data.toList=ws++[(s.data.toList.drop fr).take (k-fr)]):=af (by
    rw[hcut.out,U2 (by omega)])
   have c1:(0:Int)≤(fr:Int):=by omega
   have c3:(fr:Int)≤(s.size:Int):=by omega
   clear hke
   go_wp2_with (at_builtin;refine dX Js rfl (.tmp 29) (.tmp 33) rfl w.heap.size _ _ _ rfl (HO.out.alloc _) _ _ 1 1 [.string (s.extract fr s.size)] rfl (bQ.new wr [.string (s.extract fr s.size)] 9 1 1 rfl (by unfold maxLen;omega)) (by simp[Value.oneCell']) (by omega) (by omega) (by simp;omega) ?_;intro v2 w2 hown2 hg2 vS;have HS2:=af (HS.out.He (l:=(s.data.toList.drop fr).take (k-fr)) (by rw[←HX.out];exact hown2) hg2 vS);clear hown2 hg2 vS)
   go_wp2;go_ret;exact⟨_,rfl,by rw[HW.out];exact HS2.out⟩
def dA (a:Int×Int):iC:=⟨a.1,a.2⟩
def dL (l:List (Int×Int)):List iC:=l.map dA
theorem U1 (l:List (Int×Int)):(dL l).length=l.length:=by simp[dL]
theorem Rh {s x0 x1:List UInt8} (h:eX 32 [] s=[x0,x1]):kN s=[(2,0),(3,0),(0,jW x1),(1,jW x1)]:=by unfold kN;rw[h]
theorem Ri {s:List UInt8} (h:(eX 32 [] s).length≠2):kN s=[(2,0),(3,0)]:=by
 unfold kN
 match hc:eX 32 [] s with
 | []=>rfl
 | [_]=>rfl
 | [_,_]=>rw[hc] at h;exact absurd rfl h
 |_::_::_::_=>rfl
theorem Rj (s:List UInt8):(kN s).length≤4:=by
 unfold kN
 split<;>simp
theorem wY {w:World} {base:Nat} {e:TypeId} {size n c:Nat} {A:Option Addr} {cells:List Value} (h:w.ownsRow base e size (.slice A n c) n cells) (hn:0<n):∃g,A=some ⟨g,0,none⟩:=by
 rcases h.2 with⟨hv,hz⟩ | ⟨g,cap,cur,hv,-⟩
 ·omega
 ·simp only[Value.slice.injEq] at hv;exact⟨g,hv.1⟩
theorem Oe {s:List UInt8} {l:List (Int×Int)} {k:Nat} {a:Int×Int} (h:l[k]? =some a):sQ s (l.drop k)=if s≠[]∧ni a.1 a.2=s then some a else sQ s (l.drop (k+1)):=by
 obtain⟨hk,rfl⟩:=aW.1 h;rw[List.drop_eq_getElem_cons hk]
 rfl
theorem Dy (c:UInt8) (s cur:List UInt8):(eX c cur s).length≤s.length+1:=by
 induction s generalizing cur with
 |nil=>simp[eX]
 |cons a t ih=>
  simp only[eX]
  split
  ·have:=ih [];simp;omega
  ·have:=ih (cur++[a]);simp;omega
theorem uM (c:UInt8) (s cur:List UInt8):∀x∈eX c cur s,x.length≤cur.length+s.length:=by
 induction s generalizing cur with
 |nil=>simp[eX]
 |cons a t ih=>
  intro x hx;simp only[eX] at hx
  split at hx
  ·rcases List.mem_cons.1 hx with rfl | hx
   ·simp
   ·have:=ih [] x hx;simp at this ⊢;omega
  ·have:=ih (cur++[a]) x hx;simp at this ⊢;omega
theorem IL (s:ByteArray) (w:World) (hs:s.size≤1099511627776):
  Calls Tryz.prog 52 #[.string s] w fun e w'=>WW (readA s.data.toList) e∧Below w.heap.size w w':=by
 have aQ:Hid (St w ((w.alloc (.cells #[.int .i64 0,.int .i64 0] 64)).alloc (.cells #[.int .i64 2,.int .i64 0,.int .i64 3,.int .i64 0] 64)) [ah w.heap.size 64 #[.int .i64 0,.int .i64 0],rRow 64 2 (.slice (some ⟨w.heap.size+1,0,none⟩) 2 2) 2 [.int .i64 2,.int .i64 0,.int .i64 3,.int .i64 0]]):=af (by
  have h1:=(((St.refl w).alloc #[.int .i64 0,.int .i64 0] 64).alloc #[.int .i64 2,.int .i64 0,.int .i64 3,.int .i64 0] 64);refine((h1.bring 1 rfl).see (R:=rRow 64 2 (.slice (some ⟨w.heap.size+1,0,none⟩) 2 2) 2 [.int .i64 2,.int .i64 0,.int .i64 3,.int .i64 0]) fun F hF _=>?_).swap2;obtain⟨hb,rfl⟩:=hF;have hz:(w.alloc (.cells #[.int .i64 0,.int .i64 0] 64)).heap.size=w.heap.size+1:=by simp
  rw[hz] at hb ⊢
  exact⟨⟨rfl,.inr ⟨_,2,_,rfl,Nat.zero_le _,hb,ay _,by unfold maxLen;omega,rfl,rfl⟩⟩,rfl⟩)
 have Il:=af hs;obtain⟨l,hl⟩:∃l,s.data.toList=l:=⟨_,rfl⟩;have HL:=af hl
 have HW1:Hid (∀x∈eX 32 [] l,(⟨x.toArray⟩:ByteArray).size≤9223372036854775807):=af (fun x hx=>by
  have:=uM 32 l [] x hx
  rw[size_of_list];rw[←hl,←Lib.size_eq] at this
  simp at this;omega)
 rw[hl];clear hs hl;go_enter Tryz.func52,Tryz.ntmps52
 go_wp2_with fail
 refine(uN s 32 _ Il.out).mono ?_;rintro e w2 ⟨v2,rfl,s2⟩;obtain⟨g1,hg1⟩:∃g,w.heap.size+1=g:=⟨_,rfl⟩;obtain⟨A2,c2,rfl,-⟩:=s2.lT 0 rfl
 have HS2:Hid (St w w2 [ah w.heap.size 64 #[.int .i64 0,.int .i64 0],rRow 64 2 (.slice (some ⟨g1,0,none⟩) 2 2) 2 [.int .i64 2,.int .i64 0,.int .i64 3,.int .i64 0],dZ (.slice A2 (eX 32 [] l).length c2) (eX 32 [] l)]):=af (by
  rw[←hg1,←HL.out];exact aQ.out.call s2)
 clear s2 aQ;rw[HL.out]
 try rw[hg1]
 clear hg1;obtain⟨n,hn⟩:∃n,(eX 32 [] l).length=n:=⟨_,rfl⟩;have HN:=af hn;rw[hn] at HS2;rw[hn];clear hn
 go_upto_if 14 with(fail)
 go_cut [4] (fun s4 wx=>∃A n c,s4= .slice A n c∧St w wx [ah w.heap.size 64 #[.int .i64 0,.int .i64 0],gK s4 (dL (kN l))])
 case first=>
  by_cases h2:n=2
  ·subst h2
   obtain⟨x0,x1,hx⟩:∃x0 x1,eX 32 [] l=[x0,x1]:=by
    match h:eX 32 [] l,HN.out with
    | [a,b],_=>exact⟨a,b,rfl⟩
   have HX1:Hid ((⟨x1.toArray⟩:ByteArray).size≤9223372036854775807):=af (HW1.out x1 (by rw[hx];simp));obtain⟨d,hd⟩:∃d,jW x1=d:=⟨_,rfl⟩;have HD:=af hd;have HLA:Hid (kN l=[(2,0),(3,0),(0,d),(1,d)]):=af (by rw[Rh hx,hd]);have WZ:=HS2.out;rw[hx] at WZ;obtain⟨bw,rfl⟩:=wY (WZ.row 2 rfl) (by omega);have dV:Hid (St w w2 [ah w.heap.size 64 #[.int .i64 0,.int .i64 0],rRow 64 2 (.slice (some ⟨g1,0,none⟩) 2 2) 2 [.int .i64 2,.int .i64 0,.int .i64 3,.int .i64 0],rRow 9 1 (.slice (some ⟨bw,0,none⟩) 2 c2) 2 [.string ⟨x0.toArray⟩,.string ⟨x1.toArray⟩]]):=af WZ;clear WZ HS2 hd hx HN HW1 HL Il
   go_upto_region 4 with(fail)
   refine kS (σ:=Nat×Option Addr×Nat)
    (fun s i=>match i with
     |0=>.slice (some ⟨g1,0,none⟩) 2 2
     |1=>.slice (some ⟨bw,0,none⟩) 2 c2
     |2=>.pointer (some ⟨bw,1,none⟩)
     |3=>.string ⟨x1.toArray⟩
     |4=>.int .i64 d
     |5=>.agg #[.int .i64 0,.int .i64 d]
     |6=>.slice (some ⟨bw,0,none⟩) 2 c2
     |7=>.pointer (some ⟨bw,1,none⟩)
     |8=>.string ⟨x1.toArray⟩
     |9=>.int .i64 d
     |10=>.agg #[.int .i64 1,.int .i64 d]
     |11=>.slice (some ⟨s.1,0,none⟩) 2 2
     |12=>.slice s.2.1 4 s.2.2
     |13=>.slice s.2.1 4 s.2.2
     |_=>undef)
    (fun D s wx=>Sn w wx fun i=>match i with
     |0=>some (ah w.heap.size 64 #[.int .i64 0,.int .i64 0])
     |1=>some (rRow 64 2 (if D 12=true then .slice s.2.1 4 s.2.2 else .slice (some ⟨g1,0,none⟩) 2 2) (if D 12=true then 4 else 2) (if D 12=true then [.int .i64 2,.int .i64 0,.int .i64 3,.int .i64 0]++[.int .i64 0,.int .i64 d,.int .i64 1,.int .i64 d] else [.int .i64 2,.int .i64 0,.int .i64 3,.int .i64 0]))
     |2=>some (rRow 9 1 (.slice (some ⟨bw,0,none⟩) 2 c2) 2 [.string ⟨x0.toArray⟩,.string ⟨x1.toArray⟩])
     |3=>if D 11=true then some (ah s.1 64 #[.int .i64 0,.int .i64 d,.int .i64 1,.int .i64 d]) else none
     |_=>none)
    (0,none,0) ?_ ?_ ?_
   ·intro D hD;refine((Sn.eY dV.out).quiet ((ai _ _).drew)).congr fun i=>?_
    match i with
    |0=>rfl
    |1=>simp only[hD 12 (by decide)];rfl
    |2=>rfl
    |3=>simp only[hD 11 (by decide)];rfl
    |q+4=>rfl
   ·refine Cs (fun D s wx hR hDi hd hsh _ hs K hK=>?_) ?_
    ·have m13:D 13=false:=hsh.no hDi 13 rfl ⟨0,.phase⟩ (by simp) rfl rfl;have e4:=hs.before 13 4 (u:=.slice (some ⟨g1,0,none⟩) 2 2) rfl m13 (by kernel_rfl) rfl;clear hs;go_simp;exact hK s wx sv hR
    refine Cs (fun D s wx hR _ hd _ _ hs K hK=>?_) ?_
    ·have e5:=hs.o 5 (.slice (some ⟨bw,0,none⟩) 2 c2);clear hs;go_simp;exact hK s wx sv hR
    refine Cs (fun D s wx hR _ hd _ _ hs K hK=>?_) ?_
    ·have e16:=hs.v 1 16 hd;clear hs;go_simp;exact hK s wx sv hR
    refine Cs (fun D s wx hR _ hd _ _ hs K hK=>?_) ?_
    ·have e17:=hs.v 2 17 hd;clear hs;have c0:wx.cell? ⟨bw,1,none⟩=some (.string ⟨x1.toArray⟩):=((hR.row 2 (v:=.slice (some ⟨bw,0,none⟩) 2 c2) (n:=2) (cells:=[.string ⟨x0.toArray⟩,.string ⟨x1.toArray⟩]) rfl).cells rfl 1 _ rfl);go_simp;exact hK s wx sv hR
    refine Cs (fun D s wx hR _ hd _ _ hs K hK=>?_) ?_
    ·have e18:=hs.v 3 18 hd;have g18:=aZ e18;clear hs;go_simp;refine(rZ ⟨x1.toArray⟩ wx HX1.out).mono ?_;rintro e2 w2 ⟨rfl,rfl⟩;have hd:=HD.out;rw[BD,hd];exact hK s wx sv hR
    refine Cs (fun D s wx hR _ hd _ _ hs K hK=>?_) ?_
    ·have e19:=hs.v 4 19 hd;have g19:=aZ e19;clear hs;go_simp;exact hK s wx sv hR
    refine Cs (fun D s wx hR _ hd _ _ hs K hK=>?_) ?_
    ·have e5:=hs.o 5 (.slice (some ⟨bw,0,none⟩) 2 c2);clear hs;go_simp;exact hK s wx sv hR
    refine Cs (fun D s wx hR _ hd _ _ hs K hK=>?_) ?_
    ·have e21:=hs.v 6 21 hd;clear hs;go_simp;exact hK s wx sv hR
    refine Cs (fun D s wx hR _ hd _ _ hs K hK=>?_) ?_
    ·have e22:=hs.v 7 22 hd;clear hs;have c0:wx.cell? ⟨bw,1,none⟩=some (.string ⟨x1.toArray⟩):=((hR.row 2 (v:=.slice (some ⟨bw,0,none⟩) 2 c2) (n:=2) (cells:=[.string ⟨x0.toArray⟩,.string ⟨x1.toArray⟩]) rfl).cells rfl 1 _ rfl);go_simp;exact hK s wx sv hR
    refine Cs (fun D s wx hR _ hd _ _ hs K hK=>?_) ?_
    ·have e23:=hs.v 8 23 hd;have g23:=aZ e23;clear hs;go_simp;refine(rZ ⟨x1.toArray⟩ wx HX1.out).mono ?_;rintro e2 w2 ⟨rfl,rfl⟩;have hd:=HD.out;rw[BD,hd];exact hK s wx sv hR
    refine Cs (fun D s wx hR _ hd _ _ hs K hK=>?_) ?_
    ·have e24:=hs.v 9 24 hd;have g24:=aZ e24;clear hs;go_simp;exact hK s wx sv hR
    refine Cs (fun D s wx hR (hDi:D 11=false) hd hsh _ hs K hK=>?_) ?_
    ·have e20:=hs.v 5 20 hd;have e25:=hs.v 10 25 hd;have g20:=aZ e20;have g25:=aZ e25;clear hs;have n12:D 12=false:=hsh.no hDi 12 rfl ⟨11,.data⟩ (by simp) rfl rfl;have n13:D 13=false:=hsh.no n12 13 rfl ⟨12,.data⟩ (by simp) rfl rfl;go_simp
     refine hK (wx.heap.size,s.2) _
      (fun j hj=>by
       match j,hj with
       |0,hj | 1,hj | 2,hj | 3,hj | 4,hj | 5,hj | 6,hj | 7,hj | 8,hj | 9,hj | 10,hj=>rfl
       |11,hj=>rw[hDi] at hj;cases hj
       |12,hj=>rw[n12] at hj;cases hj
       |13,hj=>rw[n13] at hj;cases hj
       |_+14,hj=>rfl)
      ((hR.add 3 (if_neg (by rw[hDi];simp)) (St.new1 wx #[.int .i64 0,.int .i64 d,.int .i64 1,.int .i64 d] 64)).congr
       (fun i=>by
        match i with
        |0 | 1 | 2 | 3=>rfl
        |q+4=>exact(if_neg (show¬(q+4=3) by omega)).symm))
    refine Cs (fun D s wx hR (hDi:D 12=false) hd hsh _ hs K hK=>?_) ?_
    ·have e15:=hs.v 0 15 hd;have e26:=hs.v 11 26 hd;have g15:=aZ e15;have g26:=aZ e26;clear hs;have n13:D 13=false:=hsh.no hDi 13 rfl ⟨12,.data⟩ (by simp) rfl rfl;have d11:D 11=true:=hd ⟨11,.data⟩ (by simp) rfl;have ho:=hR.row 1 (e:=64) (size:=2) (v:=.slice (some ⟨g1,0,none⟩) 2 2) (n:=2) (cells:=[.int .i64 2,.int .i64 0,.int .i64 3,.int .i64 0]) (by simp only[hDi];rfl);have kb:iJ wx s.1 64 [.int .i64 0,.int .i64 d,.int .i64 1,.int .i64 d].toArray:=hR.blk 3 (if_pos d11);have hsz:=hR.below.size;refine mM o6 (.tmp 15) (.tmp 26) rfl w.heap.size _ 2 _ e15 ho _ _ 2 2 _ e26 (bQ.ML kb 2 2 rfl (by unfold maxLen;omega)) (by simp[Value.oneCell']) (by omega) (by omega) hsz ?_;intro v' w' hown hg hat;obtain⟨A4,c4,hv⟩:=dS hown;subst hv
     refine hK (s.1,A4,c4) w'
      (fun j hj=>by
       match j,hj with
       |0,hj | 1,hj | 2,hj | 3,hj | 4,hj | 5,hj | 6,hj | 7,hj | 8,hj | 9,hj | 10,hj | 11,hj=>rfl
       |12,hj=>rw[hDi] at hj;cases hj
       |13,hj=>rw[n13] at hj;cases hj
       |_+14,hj=>rfl)
      ((hR.app 1 (v:=.slice (some ⟨g1,0,none⟩) 2 2) (n:=2) (cells:=[.int .i64 2,.int .i64 0,.int .i64 3,.int .i64 0]) (by simp only[hDi];rfl) hown hg hat).congr
       (fun i=>by
        match i with
        |0 | 1 | 2 | 3=>rfl
        |q+4=>exact(if_neg (show¬(q+4=1) by omega)).symm))
    refine Cs (fun D s wx hR _ hd _ _ hs K hK=>?_) ?_
    ·have e27:=hs.v 12 27 hd;clear hs;go_simp;exact hK s wx sv hR
    exact au.nil
   ·intro D s wx hR hD;simp only[eG,Act.put,aO,aS,aV];obtain⟨s1,A4,c4⟩:=s;have iM:Hid (St w wx [ah w.heap.size 64 #[.int .i64 0,.int .i64 0],rRow 64 2 (.slice A4 4 c4) 4 ([.int .i64 2,.int .i64 0,.int .i64 3,.int .i64 0]++[.int .i64 0,.int .i64 d,.int .i64 1,.int .i64 d])]):=af (hR.fO [0,1] (by decide) (by simp only[List.map,hD 12 (by decide)]<;>rfl));clear hR hD dV;go_wp2
    go_meet
    case rel=>exact⟨A4,4,c4,rfl,by rw[HLA.out];exact iM.out⟩
  ·have h2':((n:Int) == 2)=false:=by simp;omega
   have HLA:Hid (dL (kN l)=[⟨2,0⟩,⟨3,0⟩]):=af (by rw[Ri (by rw[HN.out];exact h2)];rfl);clear h2;go_wp2
   go_meet
   case rel=>exact⟨_,_,_,rfl,by rw[HLA.out];exact HS2.out.pick [0,1] (by decide) rfl rfl⟩
 case rest=>
  obtain⟨A,m,c,rfl,SC⟩:=hcut;have fV:=af SC;clear SC;obtain⟨n4,hn4⟩:∃k,(dL (kN l)).length=k:=⟨_,rfl⟩;have AZ:=af (fV.out.WQ 1 rfl);obtain rfl:m=n4:=AZ.out.1.symm.trans hn4;have hm4:m≤4:=by rw[←hn4,U1];exact Rj l
  have HM:=af hn4;clear hn4 HS2 HN HW1;go_wp2
  go_loopw [6] (fun i wr=>∃k:Nat,k≤m∧i= .int .i64 k∧Hid (sQ l ((kN l).drop k)=readA l)∧St w wr [ah w.heap.size 64 #[.int .i64 0,.int .i64 0],gK (.slice A m c) (dL (kN l))]) (fun i _=>m-(intOf i).toNat)
  case atStart=>exact⟨0,by omega,rfl,af (by rw[List.drop_zero];exact Oc l),fV.out⟩
  case round=>
   clear fV AZ;obtain⟨k,hk,rfl,hfind,S⟩:=hrel;have HS:=af S;clear S;have q0:=HS.out.cells 0 rfl;have f0:=HS.out.free 0 rfl
   by_cases hlt:k<m
   ·obtain⟨b,off,a,rfl,hb,ha,r0,r1⟩:=(HS.out.WQ 1 rfl).get hlt
    obtain⟨a',ha',rfl⟩:∃a',(kN l)[k]? =some a'∧dA a'=a:=by
     unfold dL at ha;rw[List.getElem?_map] at ha;exact Option.map_eq_some_iff.1 ha
    have HF:=af (Oe (s:=l) ha');obtain⟨ak,an⟩:=a';have r0':wr.cell? ⟨b,off+k*2,none⟩=some (.int .i64 ak):=r0;have r1':wr.cell? ⟨b,off+k*2+1,none⟩=some (.int .i64 an):=r1;have HAA:=af ha;clear ha ha' r0 r1
    by_cases he:l=[]
    ·have HE:Hid (sQ l ((kN l).drop (k+1))=readA l):=af (by rw[←hfind.out,HF.out,if_neg (fun h=>h.1 he)]);have b0:s.toList.isEmpty=true:=by rw[Lib.toList_data,HL.out,he];rfl
     clear he;go_wp2
     go_roundw
     case rel=>exact⟨k+1,by omega,by go_num,HE,HS.out⟩
     case measure=>simp[intOf];omega
    ·have b0:s.toList.isEmpty=false:=by rw[Lib.toList_data,HL.out];cases h:l with | nil=>exact absurd h he | cons x y=>rfl
     go_wp2_with fail
     refine(IJ ak an _).mono ?_;rintro e w3 ⟨rfl,hb3⟩;have dV:=af (HS.out.quiet hb3);clear hb3 q0 f0 r0' r1';have q0:=dV.out.cells 0 rfl;have f0:=dV.out.free 0 rfl
     by_cases hm:ni ak an=l
     ·have HE:Hid (readA l=some (ak,an)):=af (by rw[←hfind.out,HF.out,if_pos ⟨he,hm⟩]);have YA:Hid ((⟨(ni ak an).toArray⟩:ByteArray)=s):=af (by rw[hm,←HL.out]);rw[YA.out];obtain⟨b',off',a2,hA,hb',ha2,r0,r1⟩:=(dV.out.WQ 1 rfl).get hlt;simp only[Option.some.injEq,Addr.mk.injEq,and_true] at hA;obtain⟨rfl,rfl⟩:=hA;obtain rfl:a2=dA (ak,an):=by have:=ha2.symm.trans HAA.out;injection this
      have r0':w3.cell? ⟨b,off+k*2,none⟩=some (.int .i64 ak):=r0;have r1':w3.cell? ⟨b,off+k*2+1,none⟩=some (.int .i64 an):=r1;clear r0 r1 ha2 hm he;go_wp2;refine bodyPost_ret (v:=.tuple #[.agg #[.int .i64 ak,.int .i64 an],.bool true]) (by simp[results,Tryz.results52,go_sem,q0]) rfl ⟨by rw[HE.out];rfl,?_⟩;exact((dV.out.set 0 rfl 0 _).set 0 rfl 1 _).below
     ·have HE:Hid (sQ l ((kN l).drop (k+1))=readA l):=af (by rw[←hfind.out,HF.out,if_neg (fun h=>hm h.2)]);obtain⟨q,hq⟩:∃q:ByteArray,(⟨(ni ak an).toArray⟩:ByteArray)=q:=⟨_,rfl⟩
      have hne:(q.toList == s.toList)=false:=by
       rw[cO,Lib.toList_data,Lib.toList_data,HL.out,←hq];intro h;exact hm (beq_iff_eq.1 h)
      rw[hq];clear hq hm he;go_wp2
      go_roundw
      case rel=>exact⟨k+1,by omega,by go_num,HE,dV.out⟩
      case measure=>simp[intOf];omega
   ·have hke:k=m:=by omega
    have HE:Hid (readA l=none):=af (by
     rw[←hfind.out,List.drop_eq_nil_of_le (by rw[←U1,HM.out];omega)];rfl)
    clear hke;go_wp2;refine bodyPost_ret (v:=.tuple #[.agg #[.int .i64 0,.int .i64 0],.bool false]) (by simp[results,Tryz.results52,go_sem,q0]) rfl ⟨by rw[HE.out];rfl,?_⟩;exact((HS.out.set 0 rfl 0 (.int .i64 0)).set 0 rfl 1 (.int .i64 0)).below
end Go.Proofs.YtkmcengmglgdeaaGreatDoor
