/- Joined texts: StrEq, StrH, MarkS, MarkSS, SayR, StrsC. -/
import Derived.Test.YtkmcengmglgdeaaGreatDoorSActR
import Derived.Test.YtkmcengmglgdeaaGreatDoorSDraw
import Derived.Test.YtkmcengmglgdeaaGreatDoorSPush
import Derived.Test.YtkmcengmglgdeaaGreatDoorSBack
import Derived.Test.YtkmcengmglgdeaaGreatDoorSActT
import Derived.Test.YtkmcengmglgdeaaGreatDoorSPerm
import Derived.Test.YtkmcengmglgdeaaGreatDoorSSayI
import Derived.Test.YtkmcengmglgdeaaGreatDoorSActsH
import Derived.Deep.Strs

namespace Go.Proofs.YtkmcengmglgdeaaGreatDoor
set_option linter.unusedVariables false
set_option linter.unusedSimpArgs false
set_option maxRecDepth 100000
set_option maxHeartbeats 8000000
open Go.ChangeShapes Go.WideShapes Go.ChangeAt Go.RowKit
theorem VS (A:Option Addr) (n c:Nat) (ls:List (List UInt8)) (A':Option Addr) (n' c':Nat) (ms:List (List UInt8)) (w:World) (h:bQ w w.heap.size 1 A n c (strs ls)) (h':bQ w w.heap.size 1 A' n' c' (strs ms)):
  Calls Tryz.prog 30 #[.slice A n c,.slice A' n' c'] w fun e w'=>e= .returned (.bool (decide (ls=ms)))∧Below w.heap.size w w':=by
 have hl:ls.length=n:=by have:=h.len;rw[iT] at this;omega
 have hl':ms.length=n':=by have:=h'.len;rw[iT] at this;omega
 have hcm:=h.bZ;have hcp:=h.cap
 unfold maxLen at hcm
 by_cases hn:n=n'
 case neg=>
  have HV:Bx (decide (ls=ms)=false):=Bx.mk (decide_eq_false (fun e=>hn (by rw[←hl,←hl',e])));have hne:((n:Int) == (n':Int))=false:=beq_false_of_ne (by omega);clear h h' hl hl' hn;go_enter Tryz.func30,Tryz.ntmps30;go_wp2;go_ret;exact⟨bf HV.out.symm,ai _ _⟩
 subst hn;have H:=af h;have H':=af h';have HL:=af hl;have Wh:=af hl';clear h h' hl hl';go_enter Tryz.func30,Tryz.ntmps30;go_wp2
 go_loopw [5] (fun i wr=>∃k:Nat,k≤n∧i= .int .i64 (k:Int)∧Hid (ls.take k=ms.take k)∧Below w.heap.size w wr) (fun i _=>n-(intOf i).toNat)
 case atStart=>exact⟨0,by omega,rfl,af rfl,ai _ _⟩
 case round=>
  obtain⟨k,hk,rfl,HM,hb⟩:=hrel;have HB:=af hb;clear hb
  by_cases hlt:k<n
  ·obtain⟨ab,jb,rfl,hab,hca⟩:=H.out.at_ (by omega);obtain⟨bb,sH,rfl,hbb,hcb⟩:=H'.out.at_ (by omega);obtain⟨l,hl⟩:∃l,ls[k]? =some l:=⟨ls[k]'(by rw[HL.out];exact hlt),bD _⟩;obtain⟨m,hm⟩:∃m,ms[k]? =some m:=⟨ms[k]'(by rw[Wh.out];exact hlt),bD _⟩;have ca:wr.cell? ⟨ab,jb+k,none⟩=some (.string ⟨l.toArray⟩):=(aC HB.out ab _ hab).trans (hca k _ (by unfold strs;rw[List.getElem?_map,hl];rfl));have cb:wr.cell? ⟨bb,sH+k,none⟩=some (.string ⟨m.toArray⟩):=(aC HB.out bb _ hbb).trans (hcb k _ (by unfold strs;rw[List.getElem?_map,hm];rfl));have HAB:Hid (ab<wr.heap.size):=af (Nat.lt_of_lt_of_le hab HB.out.size);have V8:Hid (bb<wr.heap.size):=af (Nat.lt_of_lt_of_le hbb HB.out.size);have Jl:Hid ((k:Int)<(n:Int)):=af (by omega)
   by_cases he:l=m
   ·subst he;have gY:Hid (ls.take (k+1)=ms.take (k+1)):=af (by rw[List.take_add_one,List.take_add_one,HM.out,hl,hm]);obtain⟨sl,hsl⟩:∃s,(⟨l.toArray⟩:ByteArray)=s:=⟨_,rfl⟩;rw[hsl] at ca cb;have CA:=af ca;have CB:=af cb;clear ca cb hl hm hsl hca hcb hab hbb
    go_upto_region 6 with(fail)
    refine kS (σ:=Unit)
     (fun _ i=>match i with
     |0=>.slice (some ⟨ab,jb,none⟩) n c
     |1=>.int .i64 (k:Int)
     |2=>.pointer (some ⟨ab,jb+k,none⟩)
     |3=>.string sl
     |4=>.slice (some ⟨bb,sH,none⟩) n c'
     |5=>.int .i64 (k:Int)
     |6=>.pointer (some ⟨bb,sH+k,none⟩)
     |7=>.string sl
     |8=>.bool false
     |_=>undef)
     (fun D _ wx=>Below wr.heap.size wr wx) () (fun D hD=>(ai _ _).drew) ?_ ?_
    ·refine Cs (fun D _ wx hR _ hd _ _ hs K hK=>?_) ?_
     ·have e0:=hs.o 0 (.slice (some ⟨ab,jb,none⟩) n c);clear hs;go_simp;exact hK () wx sv hR
     refine Cs (fun D _ wx hR _ hd _ _ hs K hK=>?_) ?_
     ·have e5:=hs.o 5 (.int .i64 (k:Int));clear hs;go_simp;exact hK () wx sv hR
     refine Cs (fun D _ wx hR _ hd _ _ hs K hK=>?_) ?_
     ·have e17:=hs.v 0 17 hd;have e18:=hs.v 1 18 hd;clear hs;have h0:=Jl.out;go_simp;exact hK () wx sv hR
     refine Cs (fun D _ wx hR _ hd _ _ hs K hK=>?_) ?_
     ·have e19:=hs.v 2 19 hd;clear hs;have c0:wx.cell? ⟨ab,jb+k,none⟩=some (.string sl):=(aC hR _ _ HAB.out).trans CA.out;go_simp;exact hK () wx sv hR
     refine Cs (fun D _ wx hR _ hd _ _ hs K hK=>?_) ?_
     ·have e1:=hs.o 1 (.slice (some ⟨bb,sH,none⟩) n c');clear hs;go_simp;exact hK () wx sv hR
     refine Cs (fun D _ wx hR _ hd _ _ hs K hK=>?_) ?_
     ·have e5:=hs.o 5 (.int .i64 (k:Int));clear hs;go_simp;exact hK () wx sv hR
     refine Cs (fun D _ wx hR _ hd _ _ hs K hK=>?_) ?_
     ·have e21:=hs.v 4 21 hd;have e22:=hs.v 5 22 hd;clear hs;have h0:=Jl.out;go_simp;exact hK () wx sv hR
     refine Cs (fun D _ wx hR _ hd _ _ hs K hK=>?_) ?_
     ·have e23:=hs.v 6 23 hd;clear hs;have c0:wx.cell? ⟨bb,sH+k,none⟩=some (.string sl):=(aC hR _ _ V8.out).trans CB.out;go_simp;exact hK () wx sv hR
     refine Cs (fun D _ wx hR _ hd _ _ hs K hK=>?_) ?_
     ·have e20:=hs.v 3 20 hd;have e24:=hs.v 7 24 hd;clear hs;go_simp;exact hK () wx sv hR
     exact au.nil
    intro D _ wx hR hD;simp only[eG,Act.put,aO,aS,aV];have HX:=af (HB.out.trans (hR.mono HB.out.size));clear hR hD;go_wp2
    go_roundw
    case rel=>exact⟨k+1,by omega,by go_num,gY,HX.out⟩
    case measure=>simp[intOf];omega
   ·have HV:Bx (decide (ls=ms)=false):=Bx.mk (decide_eq_false (fun e=>he (by rw[e,hm] at hl;injection hl with hl;exact hl.symm)));have VK:Hid (((⟨l.toArray⟩:ByteArray).toList == (⟨m.toArray⟩:ByteArray).toList)=false):=af (by rw[Lib.toList_data,Lib.toList_data];exact beq_false_of_ne he);obtain⟨sl,hsl⟩:∃s,(⟨l.toArray⟩:ByteArray)=s:=⟨_,rfl⟩;obtain⟨sm,hsm⟩:∃s,(⟨m.toArray⟩:ByteArray)=s:=⟨_,rfl⟩;rw[hsl] at ca;rw[hsm] at cb;have V4:Hid ((sl.toList == sm.toList)=false):=af (by rw[←hsl,←hsm];exact VK.out);have CA:=af ca;have CB:=af cb;clear ca cb hl hm hsl hsm hca hcb hab hbb he VK
    go_upto_region 6 with(fail)
    refine kS (σ:=Unit)
     (fun _ i=>match i with
     |0=>.slice (some ⟨ab,jb,none⟩) n c
     |1=>.int .i64 (k:Int)
     |2=>.pointer (some ⟨ab,jb+k,none⟩)
     |3=>.string sl
     |4=>.slice (some ⟨bb,sH,none⟩) n c'
     |5=>.int .i64 (k:Int)
     |6=>.pointer (some ⟨bb,sH+k,none⟩)
     |7=>.string sm
     |8=>.bool true
     |_=>undef)
     (fun D _ wx=>Below wr.heap.size wr wx) () (fun D hD=>(ai _ _).drew) ?_ ?_
    ·refine Cs (fun D _ wx hR _ hd _ _ hs K hK=>?_) ?_
     ·have e0:=hs.o 0 (.slice (some ⟨ab,jb,none⟩) n c);clear hs;go_simp;exact hK () wx sv hR
     refine Cs (fun D _ wx hR _ hd _ _ hs K hK=>?_) ?_
     ·have e5:=hs.o 5 (.int .i64 (k:Int));clear hs;go_simp;exact hK () wx sv hR
     refine Cs (fun D _ wx hR _ hd _ _ hs K hK=>?_) ?_
     ·have e17:=hs.v 0 17 hd;have e18:=hs.v 1 18 hd;clear hs;have h0:=Jl.out;go_simp;exact hK () wx sv hR
     refine Cs (fun D _ wx hR _ hd _ _ hs K hK=>?_) ?_
     ·have e19:=hs.v 2 19 hd;clear hs;have c0:wx.cell? ⟨ab,jb+k,none⟩=some (.string sl):=(aC hR _ _ HAB.out).trans CA.out;go_simp;exact hK () wx sv hR
     refine Cs (fun D _ wx hR _ hd _ _ hs K hK=>?_) ?_
     ·have e1:=hs.o 1 (.slice (some ⟨bb,sH,none⟩) n c');clear hs;go_simp;exact hK () wx sv hR
     refine Cs (fun D _ wx hR _ hd _ _ hs K hK=>?_) ?_
     ·have e5:=hs.o 5 (.int .i64 (k:Int));clear hs;go_simp;exact hK () wx sv hR
     refine Cs (fun D _ wx hR _ hd _ _ hs K hK=>?_) ?_
     ·have e21:=hs.v 4 21 hd;have e22:=hs.v 5 22 hd;clear hs;have h0:=Jl.out;go_simp;exact hK () wx sv hR
     refine Cs (fun D _ wx hR _ hd _ _ hs K hK=>?_) ?_
     ·have e23:=hs.v 6 23 hd;clear hs;have c0:wx.cell? ⟨bb,sH+k,none⟩=some (.string sm):=(aC hR _ _ V8.out).trans CB.out;go_simp;exact hK () wx sv hR
     refine Cs (fun D _ wx hR _ hd _ _ hs K hK=>?_) ?_
     ·have e20:=hs.v 3 20 hd;have e24:=hs.v 7 24 hd;clear hs;have h0:=V4.out;go_simp;exact hK () wx sv hR
     exact au.nil
    intro D _ wx hR hD;simp only[eG,Act.put,aO,aS,aV];have HX:=af (HB.out.trans (hR.mono HB.out.size));clear hR hD;go_wp2;go_ret;exact⟨bf (by rw[HV.out]),HX.out⟩
  ·obtain rfl:k=n:=by omega
   have HV:Bx (decide (ls=ms)=true):=Bx.mk (decide_eq_true (by have:=HM.out;rwa[dJ (by rw[HL.out];omega),dJ (by rw[Wh.out];omega)] at this));go_wp2;go_ret;exact⟨bf HV.out.symm,HB.out⟩
theorem Eo (A:Option Addr) (n c:Nat) (ls:List (List UInt8)) (A':Option Addr) (n' c':Nat) (ms:List (List UInt8)) (w:World) (h:bQ w w.heap.size 1 A n c (strs ls)) (h':bQ w w.heap.size 1 A' n' c' (strs ms)):
  Calls Tryz.prog 24 #[.slice A n c,.slice A' n' c'] w fun e w'=>e= .returned (.bool (decide (ls=ms)))∧Below w.heap.size w w':=by
 have hl:ls.length=n:=by have:=h.len;rw[iT] at this;omega
 have hl':ms.length=n':=by have:=h'.len;rw[iT] at this;omega
 have hcm:=h.bZ;have hcp:=h.cap
 unfold maxLen at hcm
 by_cases hn:n=n'
 case neg=>
  have HV:Bx (decide (ls=ms)=false):=Bx.mk (decide_eq_false (fun e=>hn (by rw[←hl,←hl',e])));have hne:((n:Int) == (n':Int))=false:=beq_false_of_ne (by omega);clear h h' hl hl' hn;go_enter Tryz.func24,Tryz.ntmps24;go_wp2;go_ret;exact⟨bf HV.out.symm,ai _ _⟩
 subst hn;have H:=af h;have H':=af h';have HL:=af hl;have Wh:=af hl';clear h h' hl hl';go_enter Tryz.func24,Tryz.ntmps24;go_wp2
 go_loopw [5] (fun i wr=>∃k:Nat,k≤n∧i= .int .i64 (k:Int)∧Hid (ls.take k=ms.take k)∧Below w.heap.size w wr) (fun i _=>n-(intOf i).toNat)
 case atStart=>exact⟨0,by omega,rfl,af rfl,ai _ _⟩
 case round=>
  obtain⟨k,hk,rfl,HM,hb⟩:=hrel;have HB:=af hb;clear hb
  by_cases hlt:k<n
  ·obtain⟨ab,jb,rfl,hab,hca⟩:=H.out.at_ (by omega);obtain⟨bb,sH,rfl,hbb,hcb⟩:=H'.out.at_ (by omega);obtain⟨l,hl⟩:∃l,ls[k]? =some l:=⟨ls[k]'(by rw[HL.out];exact hlt),bD _⟩;obtain⟨m,hm⟩:∃m,ms[k]? =some m:=⟨ms[k]'(by rw[Wh.out];exact hlt),bD _⟩;have ca:wr.cell? ⟨ab,jb+k,none⟩=some (.string ⟨l.toArray⟩):=(aC HB.out ab _ hab).trans (hca k _ (by unfold strs;rw[List.getElem?_map,hl];rfl));have cb:wr.cell? ⟨bb,sH+k,none⟩=some (.string ⟨m.toArray⟩):=(aC HB.out bb _ hbb).trans (hcb k _ (by unfold strs;rw[List.getElem?_map,hm];rfl));have HAB:Hid (ab<wr.heap.size):=af (Nat.lt_of_lt_of_le hab HB.out.size);have V8:Hid (bb<wr.heap.size):=af (Nat.lt_of_lt_of_le hbb HB.out.size);have Jl:Hid ((k:Int)<(n:Int)):=af (by omega)
   by_cases he:l=m
   ·subst he;have gY:Hid (ls.take (k+1)=ms.take (k+1)):=af (by rw[List.take_add_one,List.take_add_one,HM.out,hl,hm]);obtain⟨sl,hsl⟩:∃s,(⟨l.toArray⟩:ByteArray)=s:=⟨_,rfl⟩;rw[hsl] at ca cb;have CA:=af ca;have CB:=af cb;clear ca cb hl hm hsl hca hcb hab hbb
    go_upto_region 6 with(fail)
    refine kS (σ:=Unit)
     (fun _ i=>match i with
     |0=>.slice (some ⟨ab,jb,none⟩) n c
     |1=>.int .i64 (k:Int)
     |2=>.pointer (some ⟨ab,jb+k,none⟩)
     |3=>.string sl
     |4=>.slice (some ⟨bb,sH,none⟩) n c'
     |5=>.int .i64 (k:Int)
     |6=>.pointer (some ⟨bb,sH+k,none⟩)
     |7=>.string sl
     |8=>.bool false
     |_=>undef)
     (fun D _ wx=>Below wr.heap.size wr wx) () (fun D hD=>(ai _ _).drew) ?_ ?_
    ·refine Cs (fun D _ wx hR _ hd _ _ hs K hK=>?_) ?_
     ·have e0:=hs.o 0 (.slice (some ⟨ab,jb,none⟩) n c);clear hs;go_simp;exact hK () wx sv hR
     refine Cs (fun D _ wx hR _ hd _ _ hs K hK=>?_) ?_
     ·have e5:=hs.o 5 (.int .i64 (k:Int));clear hs;go_simp;exact hK () wx sv hR
     refine Cs (fun D _ wx hR _ hd _ _ hs K hK=>?_) ?_
     ·have e17:=hs.v 0 17 hd;have e18:=hs.v 1 18 hd;clear hs;have h0:=Jl.out;go_simp;exact hK () wx sv hR
     refine Cs (fun D _ wx hR _ hd _ _ hs K hK=>?_) ?_
     ·have e19:=hs.v 2 19 hd;clear hs;have c0:wx.cell? ⟨ab,jb+k,none⟩=some (.string sl):=(aC hR _ _ HAB.out).trans CA.out;go_simp;exact hK () wx sv hR
     refine Cs (fun D _ wx hR _ hd _ _ hs K hK=>?_) ?_
     ·have e1:=hs.o 1 (.slice (some ⟨bb,sH,none⟩) n c');clear hs;go_simp;exact hK () wx sv hR
     refine Cs (fun D _ wx hR _ hd _ _ hs K hK=>?_) ?_
     ·have e5:=hs.o 5 (.int .i64 (k:Int));clear hs;go_simp;exact hK () wx sv hR
     refine Cs (fun D _ wx hR _ hd _ _ hs K hK=>?_) ?_
     ·have e21:=hs.v 4 21 hd;have e22:=hs.v 5 22 hd;clear hs;have h0:=Jl.out;go_simp;exact hK () wx sv hR
     refine Cs (fun D _ wx hR _ hd _ _ hs K hK=>?_) ?_
     ·have e23:=hs.v 6 23 hd;clear hs;have c0:wx.cell? ⟨bb,sH+k,none⟩=some (.string sl):=(aC hR _ _ V8.out).trans CB.out;go_simp;exact hK () wx sv hR
     refine Cs (fun D _ wx hR _ hd _ _ hs K hK=>?_) ?_
     ·have e20:=hs.v 3 20 hd;have e24:=hs.v 7 24 hd;clear hs;go_simp;exact hK () wx sv hR
     exact au.nil
    intro D _ wx hR hD;simp only[eG,Act.put,aO,aS,aV];have HX:=af (HB.out.trans (hR.mono HB.out.size));clear hR hD;go_wp2
    go_roundw
    case rel=>exact⟨k+1,by omega,by go_num,gY,HX.out⟩
    case measure=>simp[intOf];omega
   ·have HV:Bx (decide (ls=ms)=false):=Bx.mk (decide_eq_false (fun e=>he (by rw[e,hm] at hl;injection hl with hl;exact hl.symm)));have VK:Hid (((⟨l.toArray⟩:ByteArray).toList == (⟨m.toArray⟩:ByteArray).toList)=false):=af (by rw[Lib.toList_data,Lib.toList_data];exact beq_false_of_ne he);obtain⟨sl,hsl⟩:∃s,(⟨l.toArray⟩:ByteArray)=s:=⟨_,rfl⟩;obtain⟨sm,hsm⟩:∃s,(⟨m.toArray⟩:ByteArray)=s:=⟨_,rfl⟩;rw[hsl] at ca;rw[hsm] at cb;have V4:Hid ((sl.toList == sm.toList)=false):=af (by rw[←hsl,←hsm];exact VK.out);have CA:=af ca;have CB:=af cb;clear ca cb hl hm hsl hsm hca hcb hab hbb he VK
    go_upto_region 6 with(fail)
    refine kS (σ:=Unit)
     (fun _ i=>match i with
     |0=>.slice (some ⟨ab,jb,none⟩) n c
     |1=>.int .i64 (k:Int)
     |2=>.pointer (some ⟨ab,jb+k,none⟩)
     |3=>.string sl
     |4=>.slice (some ⟨bb,sH,none⟩) n c'
     |5=>.int .i64 (k:Int)
     |6=>.pointer (some ⟨bb,sH+k,none⟩)
     |7=>.string sm
     |8=>.bool true
     |_=>undef)
     (fun D _ wx=>Below wr.heap.size wr wx) () (fun D hD=>(ai _ _).drew) ?_ ?_
    ·refine Cs (fun D _ wx hR _ hd _ _ hs K hK=>?_) ?_
     ·have e0:=hs.o 0 (.slice (some ⟨ab,jb,none⟩) n c);clear hs;go_simp;exact hK () wx sv hR
     refine Cs (fun D _ wx hR _ hd _ _ hs K hK=>?_) ?_
     ·have e5:=hs.o 5 (.int .i64 (k:Int));clear hs;go_simp;exact hK () wx sv hR
     refine Cs (fun D _ wx hR _ hd _ _ hs K hK=>?_) ?_
     ·have e17:=hs.v 0 17 hd;have e18:=hs.v 1 18 hd;clear hs;have h0:=Jl.out;go_simp;exact hK () wx sv hR
     refine Cs (fun D _ wx hR _ hd _ _ hs K hK=>?_) ?_
     ·have e19:=hs.v 2 19 hd;clear hs;have c0:wx.cell? ⟨ab,jb+k,none⟩=some (.string sl):=(aC hR _ _ HAB.out).trans CA.out;go_simp;exact hK () wx sv hR
     refine Cs (fun D _ wx hR _ hd _ _ hs K hK=>?_) ?_
     ·have e1:=hs.o 1 (.slice (some ⟨bb,sH,none⟩) n c');clear hs;go_simp;exact hK () wx sv hR
     refine Cs (fun D _ wx hR _ hd _ _ hs K hK=>?_) ?_
     ·have e5:=hs.o 5 (.int .i64 (k:Int));clear hs;go_simp;exact hK () wx sv hR
     refine Cs (fun D _ wx hR _ hd _ _ hs K hK=>?_) ?_
     ·have e21:=hs.v 4 21 hd;have e22:=hs.v 5 22 hd;clear hs;have h0:=Jl.out;go_simp;exact hK () wx sv hR
     refine Cs (fun D _ wx hR _ hd _ _ hs K hK=>?_) ?_
     ·have e23:=hs.v 6 23 hd;clear hs;have c0:wx.cell? ⟨bb,sH+k,none⟩=some (.string sm):=(aC hR _ _ V8.out).trans CB.out;go_simp;exact hK () wx sv hR
     refine Cs (fun D _ wx hR _ hd _ _ hs K hK=>?_) ?_
     ·have e20:=hs.v 3 20 hd;have e24:=hs.v 7 24 hd;clear hs;have h0:=V4.out;go_simp;exact hK () wx sv hR
     exact au.nil
    intro D _ wx hR hD;simp only[eG,Act.put,aO,aS,aV];have HX:=af (HB.out.trans (hR.mono HB.out.size));clear hR hD;go_wp2;go_ret;exact⟨bf (by rw[HV.out]),HX.out⟩
  ·obtain rfl:k=n:=by omega
   have HV:Bx (decide (ls=ms)=true):=Bx.mk (decide_eq_true (by have:=HM.out;rwa[dJ (by rw[HL.out];omega),dJ (by rw[Wh.out];omega)] at this));go_wp2;go_ret;exact⟨bf HV.out.symm,HB.out⟩
open Go.ChangeShapes Go.WideShapes Go.ChangeAt Go.RowKit Go.Deep
def lm (ls:List (List UInt8)) (k:Nat):List (List UInt8):=ls.take k++List.replicate (ls.length-k) []
theorem OT (ls:List (List UInt8)):lm ls 0=List.replicate ls.length []:=by simp[lm]
theorem SI (ls:List (List UInt8)) (k:Nat) (h:k≤ls.length):(lm ls k).length=ls.length:=by simp[lm];omega
theorem OU (ls:List (List UInt8)):lm ls ls.length=ls:=by simp[lm]
theorem OV (ls:List (List UInt8)) (k:Nat) (l:List UInt8) (h:ls[k]? =some l):(strs (lm ls k)).set k (.string ⟨l.toArray⟩)=strs (lm ls (k+1)):=by
 obtain⟨h1,h2⟩:=aW.1 h
 have e1:lm ls k=ls.take k++([]::List.replicate (ls.length-(k+1)) []):=by
  unfold lm;rw[show ls.length-k=(ls.length-(k+1))+1 by omega,List.replicate_succ]
 have e2:lm ls (k+1)=ls.take k++(l::List.replicate (ls.length-(k+1)) []):=by
  unfold lm;rw[List.take_succ_eq_append_getElem h1,h2,List.append_assoc];rfl
 have hl:(strs (ls.take k)).length=k:=by rw[iT,List.length_take];omega
 rw[e1,e2,Dz,Dz,List.set_append_right _ _ (by omega),hl,Nat.sub_self]
 rfl
theorem nV (A:Option Addr) (n c:Nat) (ls:List (List UInt8)) (w:World) (h:bQ w w.heap.size 1 A n c (strs ls)) (hn:n≤1048576):
  Calls Tryz.prog 21 #[.slice A n c] w (Gives w id fun v=>[dZ v ls]):=by
 have hl:ls.length=n:=by have:=h.len;rw[iT] at this;omega
 have hcap:=h.cap;have hcm:=h.bZ
 unfold maxLen at hcm
 obtain⟨i0,hi,hz0,hz1,hz2⟩:=Js.hi;have HL:=af hl;clear hl;have H:=af h;clear h;go_enter Tryz.func21,Tryz.ntmps21
 go_wp2_with (at_make;refine wpList_make_full _ rfl _ _ 43 rfl w.heap.size 9 i0 _ 1 Tryz.underlying43 hi hz0 hz1 _ _ _ _ n rfl rfl rfl rfl (by rw[hz2];omega) (by unfold maxLen;omega) (ay _) ?_;intro w1 hown hgr)
 have hb1:Below w.heap.size w w1:=(ai _ _).grown hgr (ay _) (by simp)
 have hk1:iJ w1 w.heap.size 9 (strs (lm ls 0)).toArray:=by
  rcases hown.2 with⟨e,-⟩ | ⟨g,cap,cur,e,-,hh,-,-,hs,ht⟩
  ·cases e
  ·simp only[Value.slice.injEq,Option.some.injEq,Addr.mk.injEq] at e;obtain⟨⟨rfl,-⟩,-,rfl⟩:=e
   have:cur=(strs (lm ls 0)).toArray:=by
    rw[OT,HL.out]
    apply Array.ext'
    rw[dJ (by simp[hs])] at ht;rw[ht];refine List.ext_getElem? fun j=>?_
    unfold madeCells
    by_cases hj:j<n
    ·simp[Value.cells,hj,List.getElem?_replicate,strs]
     rw[Nat.mod_one]
     rfl
    ·rw[List.getElem?_eq_none (by simp;omega),List.getElem?_eq_none (by simp[strs];omega)]
   rw[←this];exact hh
 have bG:Hid (St w w1 [ah w.heap.size 9 (strs (lm ls 0)).toArray]):=af ⟨hb1,[[w.heap.size]],rfl,fun i R F hR hF=>by
  match i with
  |0=>injection hR with hR;injection hF with hF;subst hR hF;exact⟨⟨hk1,rfl⟩,by simp⟩
  |i+1=>simp at hR,by simp⟩
 clear hown hgr hb1 hk1;go_wp2
 go_loopw [4] (fun i wr=>∃k:Nat,k≤n∧i= .int .i64 k∧St w wr [ah w.heap.size 9 (strs (lm ls k)).toArray]) (fun i _=>n-(intOf i).toNat)
 case atStart=>exact⟨0,by omega,rfl,bG.out⟩
 case round=>
  clear bG;obtain⟨k,hk,rfl,S⟩:=hrel;have HS:=af S;clear S
  by_cases hlt:k<n
  ·obtain⟨ab,jb,rfl,hab,hca⟩:=H.out.at_ (by omega);obtain⟨l,hl⟩:∃l,ls[k]? =some l:=⟨ls[k]'(by rw[HL.out];exact hlt),bD _⟩;have r0:wr.cell? ⟨ab,jb+k,none⟩=some (.string ⟨l.toArray⟩):=(aC HS.out.below ab _ hab).trans (hca k _ (by unfold strs;rw[List.getElem?_map,hl];rfl))
   have ho:∃o,wr.cell? ⟨w.heap.size,k,none⟩=some (.string o):=by
    refine⟨⟨((lm ls k)[k]'(by rw[SI _ _ (by rw[HL.out];omega),HL.out];exact hlt)).toArray⟩,?_⟩;rw[HS.out.cells 0 rfl k]
    simp[strs]
   obtain⟨o,ho⟩:=ho;have fo:wr.frozen? ⟨w.heap.size,k,none⟩=false:=(HS.out.free 0 rfl) k
   have HS2:Hid (St w (wr.setCell ⟨w.heap.size,k,none⟩ (.string ⟨l.toArray⟩)) [ah w.heap.size 9 (strs (lm ls (k+1))).toArray]):=af (by
    have h1:=HS.out.set 0 rfl k (.string ⟨l.toArray⟩);have e:(strs (lm ls k)).toArray.setIfInBounds k (.string ⟨l.toArray⟩)=(strs (lm ls (k+1))).toArray:=by rw[←OV ls k l hl];simp
    rw[←e];exact h1)
   clear hab hca hl;go_wp2
   go_roundw
   case rel=>exact⟨k+1,by omega,by go_num,HS2.out⟩
   case measure=>simp[intOf];omega
  ·obtain rfl:k=n:=by omega
   have gy:Hid (St w wr [dZ (.slice (some ⟨w.heap.size,0,none⟩) k k) ls]):=af (HS.out.see fun F h _=>by
    obtain⟨h1,rfl⟩:=h;have e:lm ls k=ls:=by rw[←HL.out];exact OU ls
    rw[e] at h1
    exact⟨⟨by rw[iT];omega,.inr ⟨w.heap.size,k,_,by rw[HL.out],Nat.zero_le _,h1,by rw[HL.out];exact ay _,by unfold maxLen;omega,by simp[iT,HL.out],dJ (by simp[iT,HL.out])⟩⟩,rfl⟩)
   go_wp2;go_ret;exact⟨_,rfl,gy.out⟩
def BG (ls:List (List UInt8)):Nat:=(ls.map List.length).sum
def xu (ls:List (List UInt8)):Nat:=ls.length+BG ls
theorem SK {ls:List (List UInt8)} {k:Nat} {l:List UInt8} (h:ls[k]? =some l):BG (ls.take (k+1))=BG (ls.take k)+l.length:=by
 unfold BG
 rw[List.take_add_one,h];simp
theorem XD (ls:List (List UInt8)) (k:Nat):BG (ls.take k)≤BG ls:=by
 unfold BG
 have h:ls.map List.length=(ls.take k).map List.length++(ls.drop k).map List.length:=by rw[←List.map_append,List.take_append_drop]
 rw[h,List.sum_append];omega
theorem Ep (A:Option Addr) (n c:Nat) (ls:List (List UInt8)) (left:Int) (w:World) (h:bQ w w.heap.size 1 A n c (strs ls)) (hls:∀l∈ls,l.length≤9223372036854775807) (h0:0≤left) (h1:left≤1048576):
  Calls Tryz.prog 18 #[.slice A n c,.int .i64 left] w fun e w'=>e= .returned (.int .i64 (less left (xu ls)))∧w=w':=by
 have hl:ls.length=n:=by have:=h.len;rw[iT] at this;omega
 have hcap:=h.cap;have hcm:=h.bZ
 unfold maxLen at hcm
 have HL:=af hl;have H:=af h;have VW:=af hls;clear hl h hls
 by_cases hn:(n:Int)≤left
 case neg=>
  have HV:Bx (less left (xu ls)= -1):=Bx.mk (iZ (by unfold xu;rw[HL.out];omega));have hn2:left-(n:Int)<0:=by omega
  clear hn;go_enter Tryz.func18,Tryz.ntmps18;go_wp2;go_ret;exact⟨aG HV.out.symm,rfl⟩
 have hn2:¬left-(n:Int)<0:=by omega
 go_enter Tryz.func18,Tryz.ntmps18;go_wp2;clear hn2
 go_loop [5,1] (fun i lv=>∃(k:Nat) (m:Int),k≤n∧i= .int .i64 (k:Int)∧lv= .int .i64 m∧Bx (m=left-(n:Int)-(BG (ls.take k):Nat))∧0≤m∧m≤1048576) (fun i _=>n-(intOf i).toNat)
 case atStart=>exact⟨0,left-(n:Int),by omega,rfl,rfl,Bx.mk (by simp[BG]),by omega,by omega⟩
 case round=>
  obtain⟨k,m,hk,rfl,rfl,HM,hm0,hm1⟩:=hrel
  by_cases hlt:k<n
  ·obtain⟨ab,jb,rfl,hab,hca⟩:=H.out.at_ (by omega);obtain⟨l,hl⟩:∃l,ls[k]? =some l:=⟨ls[k]'(by rw[HL.out];exact hlt),bD _⟩;obtain⟨sl,hsl⟩:∃s,(⟨l.toArray⟩:ByteArray)=s:=⟨_,rfl⟩;have r0:w.cell? ⟨ab,jb+k,none⟩=some (.string sl):=hca k _ (by unfold strs;rw[List.getElem?_map,hl,←hsl];rfl);have hsz:sl.size=l.length:=by rw[←hsl];exact List.size_toArray ..
   have hmx:=VW.out l (bU hl);have HS:=Bx.mk (SK hl);have Il:=Bx.mk hsz;have hs0:sl.size≤9223372036854775807:=by omega
   have hki:(k:Int)<(n:Int):=by omega
   clear hl hsl hab hca hmx hsz
   by_cases hneg:m-(sl.size:Int)<0
   ·have HV:Bx (less left (xu ls)= -1):=Bx.mk (iZ (by
     have h1:=HM.out;have h2:=HS.out;have h3:=XD ls (k+1);have h4:=Il.out
     unfold xu
     rw[HL.out];omega))
    go_wp2;go_ret;exact⟨aG HV.out.symm,rfl⟩
   ·have gY:Bx (m-(sl.size:Int)=left-(n:Int)-(BG (ls.take (k+1)):Nat)):=Bx.mk (by
     have h1:=HM.out;have h2:=HS.out;have h4:=Il.out
     omega)
    go_wp2
    go_round
    case rel=>exact⟨k+1,m-(sl.size:Int),by omega,by go_num,rfl,gY,by omega,by omega⟩
    case measure=>simp[intOf];omega
  ·obtain rfl:k=n:=by omega
   have HV:Bx (less left (xu ls)=m):=Bx.mk (by
    have h1:=HM.out;rw[dJ (by rw[HL.out];exact ay _)] at h1;rw[iR (by unfold xu;rw[HL.out];omega)]
    unfold xu;rw[HL.out];omega)
   go_wp2;go_ret;exact⟨aG HV.out.symm,rfl⟩
def Bl (n:Nat):List UInt8:=if n=0 then [] else iY n
theorem SG {n:Nat} (h:0<n):Bl n=Bl (n/10)++[jQ (n%10)]:=by
 unfold Bl
 rw[if_neg (by omega)]
 by_cases h9:n<10
 ·rw[if_pos (by omega),lD h9,show n%10=n by omega];rfl
 ·rw[if_neg (by omega),pq h9]
def uV (n:Nat):List UInt8:=if n=0 then [109,48] else 109::iY n
theorem yK (n:Nat) (hn:n<100000000000) (w:World):
  Calls Tryz.prog 82 #[.int .i64 (n:Int)] w fun e w'=>e= .returned (.string ⟨(uV n).toArray⟩)∧Below w.heap.size w w':=by
 by_cases h0:n=0
 ·subst h0;go_enter Tryz.func82,Tryz.ntmps82;go_wp2;go_ret;exact⟨rfl,ai _ _⟩
 have hpos:¬(n:Int)≤0:=by omega
 have HW:Bx (uV n=109::Bl n):=Bx.mk (by unfold uV Bl;rw[if_neg h0,if_neg h0]);have hlen:=pz 11 n (by omega);have HLN:Hid ((Bl n).length≤12):=af (by unfold Bl;rw[if_neg h0];exact hlen);clear h0 hlen;go_enter Tryz.func82,Tryz.ntmps82;go_wp2;clear hpos
 go_loopw [0,3] (fun kv ov wr=>∃(k:Nat) (o:List UInt8) (so:ByteArray),kv= .int .i64 (k:Int)∧ov= .string so∧k≤n∧Bx (so=⟨o.toArray⟩)∧Bx (Bl n=Bl k++o)∧Below w.heap.size w wr) (fun kv _ _=>(intOf kv).toNat)
 case atStart=>exact⟨n,[],⟨#[]⟩,rfl,rfl,ay _,Bx.mk rfl,Bx.mk (by simp),ai _ _⟩
 case round=>
  obtain⟨k,o,so,rfl,rfl,hk,HSO,HD,hb⟩:=hrel;have HB:=af hb;clear hb
  by_cases hk0:0<k
  ·have hki:(0:Int)<(k:Int):=by omega
   have hol:o.length≤12:=by have h1:=HLN.out;rw[HD.out,bK] at h1;omega
   have hsz:so.size≤12:=by rw[HSO.out];show o.toArray.size≤_;rw[List.size_toArray];exact hol
   obtain⟨a,ha⟩:∃a,k/10=a:=⟨_,rfl⟩;obtain⟨b,hb⟩:∃b,k%10=b:=⟨_,rfl⟩;have HD2:Bx (Bl n=Bl a++(jQ b::o)):=Bx.mk (by rw[HD.out,SG hk0,ha,hb];simp);have aaw:b<10:=by omega
   have hq:(k:Int).tdiv 10=(a:Int):=by rw[Int.tdiv_eq_ediv_of_nonneg (by omega)];omega
   have hr:(k:Int).tmod 10=(b:Int):=by rw[Int.tmod_eq_emod_of_nonneg (by omega)];omega
   have hq2:(k:Int)/10=(a:Int):=by omega
   have hr2:(k:Int)%10=(b:Int):=by omega
   have hc:IntKind.u8.wrap (48+(b:Int))=((jQ b).toNat:Int):=by rw[o9 aaw,IntKind.wrap_u8];omega
   have hc2:(48+(b:Int))%256=((jQ b).toNat:Int):=by rw[o9 aaw];omega
   have hwb:IntKind.i64.wrap (48+(b:Int))=48+(b:Int):=by rw[IntKind.wrap_i64]<;>omega
   have hwa:IntKind.i64.wrap (a:Int)=(a:Int):=by rw[IntKind.wrap_i64]<;>omega
   have hak:a<k:=by omega
   have hcv:(convert 22 9 (.slice (some ⟨wr.heap.size,0,none⟩) 1 1)).run Tryz.prog (wr.alloc (.cells #[.int .u8 ((jQ b).toNat:Int)] 5))= .ok (.string ⟨[jQ b].toArray⟩) (wr.alloc (.cells #[.int .u8 ((jQ b).toNat:Int)] 5)):=qP _ _ _ ((iJ.new wr 5 #[.int .u8 ((jQ b).toNat:Int)]).cell 0);have aeg:¬9223372036854775807<1+so.size:=by omega
   have aeh:Bx ((⟨[jQ b].toArray⟩++so:ByteArray)=⟨(jQ b::o).toArray⟩):=Bx.mk (by rw[HSO.out,iw];rfl);have HB2:Hid (Below w.heap.size w (wr.alloc (.cells #[.int .u8 ((jQ b).toNat:Int)] 5))):=af (HB.out.alloc HB.out.size _);clear ha hb hol aaw;go_wp2
   go_roundw
   case rel=>exact⟨a,_,_,by go_num,rfl,by omega,aeh,HD2,HB2.out⟩
   case measure=>simp[intOf];omega
  ·obtain rfl:k=0:=by omega
   have hsz:so.size≤12:=by
    have h1:=HLN.out;rw[HD.out] at h1;rw[HSO.out];show o.toArray.size≤_;rw[List.size_toArray]
    simpa[Bl] using h1
   have aeg:¬9223372036854775807<1+so.size:=by omega
   have HV:Bx ((⟨#[109]⟩++so:ByteArray)=⟨(uV n).toArray⟩):=Bx.mk (by rw[HW.out,HD.out,HSO.out,show(⟨#[109]⟩:ByteArray)=⟨[109].toArray⟩ from rfl,iw];rfl);go_wp2;go_ret;exact⟨dh HV.out,HB.out⟩
def mQ (k n:Nat):List (List UInt8):=(List.range n).map fun q=>uV (k+q)
theorem sG (k n:Nat):(mQ k n).length=n:=by simp[mQ]
theorem Sv (k n j:Nat) (h:j<n):(mQ k n)[j]? =some (uV (k+j)):=by simp[mQ,h]
def yJ (k:Nat) (ls:List (List UInt8)) (j:Nat):List (List UInt8):=mQ k j++ls.drop j
theorem Sz (k:Nat) (ls:List (List UInt8)):yJ k ls 0=ls:=by simp[yJ,mQ]
theorem VI (k:Nat) (ls:List (List UInt8)) (j:Nat) (h:j≤ls.length):(yJ k ls j).length=ls.length:=by
 unfold yJ;rw[bK,sG,List.length_drop];omega
theorem SB (k:Nat) (ls:List (List UInt8)):yJ k ls ls.length=mQ k ls.length:=by simp[yJ]
theorem SE (k:Nat) (ls:List (List UInt8)) (j:Nat) (h:j<ls.length):(yJ k ls j).set j (uV (k+j))=yJ k ls (j+1):=by
 unfold yJ
 rw[List.set_append_right _ _ (by rw[sG];exact ay _),sG,Nat.sub_self,List.drop_eq_getElem_cons h,aS];have:mQ k (j+1)=mQ k j++[uV (k+j)]:=by simp[mQ,List.range_succ]
 rw[this,List.append_assoc];rfl
theorem VJ (xs:List (List UInt8)) (k:Nat) (l:List UInt8):(strs xs).set k (.string ⟨l.toArray⟩)=strs (xs.set k l):=by simp[strs,List.map_set]
theorem St.aau {w W:World} {L:List dW} (h:St w W L) (i:Nat) {g n c:Nat} {xs:List (List UInt8)} (hi:L[i]? =some (dZ (.slice (some ⟨g,0,none⟩) n c) xs)) (hn:xs.length=n) (k:Nat) (l:List UInt8):
  St w (W.setCell ⟨g,k,none⟩ (.string ⟨l.toArray⟩)) (L.set i (dZ (.slice (some ⟨g,0,none⟩) n c) (xs.set k l))):=
 h.mod i hi fun F h1 _=>by
  obtain⟨h2,hF⟩:=h1;refine⟨F,⟨?_,hF⟩,fun b hb=>.inl hb,(Only.refl F W).set (by rw[hF];simp[Value.ownBlock]) _⟩
  have:=(World.ownsRow.stored (hn▸h2:W.ownsRow 0 9 1 (.slice (some ⟨g,0,none⟩) n c) n (strs xs)) k (.string ⟨l.toArray⟩)).1
  rw[VJ] at this;rw[List.length_set,hn];exact this
theorem tq {w W:World} {L:List dW} (S:St w W L) (i:Nat) {A:Option Addr} {n c:Nat} {ls:List (List UInt8)} (hi:L[i]? =some (dZ (.slice A n c) ls)) (k:Nat) (hk:k≤10000000000) (hs:ls.length≤1048576):
  Calls Tryz.prog 26 #[.slice A n c,.int .i64 k] W fun e w'=>e= .returned (.int .i64 (k+ls.length:Nat))∧St w w' (L.set i (dZ (.slice A n c) (mQ k ls.length))):=by
 obtain⟨A',c',hv,hrd⟩:=S.lT i hi;simp only[Value.slice.injEq] at hv;obtain⟨rfl,hn,rfl⟩:=hv;have hcp:=hrd.cap;have hcm:=hrd.bZ
 unfold maxLen at hcm
 subst hn;have hil:i<L.length:=(aW.1 hi).1;have aav:Hid (∀R:dW,(L.set i R)[i]? =some R):=af fun R=>by rw[List.getElem?_set_self hil]
 have aQ:Hid (St w W (L.set i (dZ (.slice A ls.length c) (yJ k ls 0)))):=af (by
  rw[Sz]
  have:L.set i (dZ (.slice A ls.length c) ls)=L:=List.ext_getElem? fun q=>by
   by_cases hq:i=q
   ·subst hq;rw[List.getElem?_set_self hil,hi]
   ·rw[List.getElem?_set_ne hq]
  rw[this];exact S)
 obtain⟨n,hn⟩:∃n,ls.length=n:=⟨_,rfl⟩;have HN:=af hn;rw[hn] at aQ hcp hs ⊢
 clear S hi hil hrd hn;go_enter Tryz.func26,Tryz.ntmps26;go_wp2
 go_loopw [5,1] (fun iv kk wr=>∃j:Nat,j≤n∧iv= .int .i64 j∧kk= .int .i64 ((k+j:Nat):Int)∧St w wr (L.set i (dZ (.slice A n c) (yJ k ls j)))) (fun iv _ _=>n-(intOf iv).toNat)
 case atStart=>exact⟨0,by omega,rfl,rfl,aQ.out⟩
 case round=>
  clear aQ;obtain⟨j,hj,rfl,rfl,S⟩:=hrel;have HS:=af S;clear S;have HML:=af (VI k ls j (by rw[HN.out];exact hj))
  by_cases hlt:j<n
  ·have hro:=HS.out.row i (aav.out _);rw[HML.out,HN.out] at hro;obtain⟨g,rfl⟩:=wY hro (by omega);clear hro;have hji:(j:Int)<(n:Int):=by omega
   go_wp2_with fail
   refine(yK (k+j) (by omega) _).mono ?_;rintro e w2 ⟨rfl,hb2⟩;have HS2:=af (HS.out.quiet hb2);clear hb2 HS;have hro:=HS2.out.row i (aav.out _);rw[HML.out,HN.out] at hro;obtain⟨u0,hu0⟩:∃u,(strs (yJ k ls j))[j]? =some u:=⟨_,bD (by rw[iT,HML.out,HN.out];omega)⟩;have hc0:w2.cell? ⟨g,j,none⟩=some u0:=(hro.cellAt j (by omega)).trans hu0;have hf0:w2.frozen? ⟨g,j,none⟩=false:=hro.frozenAt _
   have dV:Hid (St w (w2.setCell ⟨g,j,none⟩ (.string ⟨(uV (k+j)).toArray⟩)) (L.set i (dZ (.slice (some ⟨g,0,none⟩) n c) (yJ k ls (j+1))))):=af (by
    have:=HS2.out.aau i (aav.out _) (by rw[HML.out,HN.out]) j (uV (k+j))
    rw[List.set_set,SE k ls j (by rw[HN.out];exact hlt)] at this
    exact this)
   clear hro hu0 HS2;go_wp2
   go_roundw
   case rel=>exact⟨j+1,by omega,by go_num,by go_num,dV.out⟩
   case measure=>simp[intOf];omega
  ·obtain rfl:j=n:=by omega
   have HF:Hid (St w wr (L.set i (dZ (.slice A j c) (mQ k j)))):=af (by
    have h1:=HS.out;have e:yJ k ls j=mQ k j:=by have:=SB k ls;rw[HN.out] at this;exact this
    rw[e] at h1;exact h1)
   go_wp2;go_ret;exact⟨rfl,HF.out⟩
theorem sJ (A:Option Addr) (n c k m:Nat) (w:World) (h:bQ w w.heap.size 1 A n c (strs (mQ k m))) (hk:k≤10000000000) (hs:n≤1048576):
  Calls Tryz.prog 28 #[.slice A n c,.int .i64 k] w fun e w'=>e= .returned (.int .i64 (k+m:Nat))∧Below w.heap.size w w':=by
 obtain rfl:m=n:=by have:=h.len;rw[iT,sG] at this;omega
 have hcap:=h.cap;have hcm:=h.bZ
 unfold maxLen at hcm
 have H:=af h;clear h;go_enter Tryz.func28,Tryz.ntmps28;go_wp2
 go_loopw [5,1] (fun i kk wr=>∃j:Nat,j≤m∧i= .int .i64 j∧kk= .int .i64 ((k+j:Nat):Int)∧Below w.heap.size w wr) (fun i _ _=>m-(intOf i).toNat)
 case atStart=>exact⟨0,by omega,rfl,rfl,ai _ _⟩
 case round=>
  obtain⟨j,hj,rfl,rfl,hb⟩:=hrel;have HB:=af hb;clear hb
  by_cases hlt:j<m
  ·obtain⟨ab,jb,rfl,hab,hca⟩:=H.out.at_ (by omega);have hmt:=fun w'=>yK (k+j) (by omega) w'
   obtain⟨sl,hsl⟩:∃s,(⟨(uV (k+j)).toArray⟩:ByteArray)=s:=⟨_,rfl⟩;rw[hsl] at hmt;have HMT:=af hmt;have CA:Hid (wr.cell? ⟨ab,jb+j,none⟩=some (.string sl)):=af ((aC HB.out ab _ hab).trans (hca j _ (by unfold strs;rw[List.getElem?_map,Sv k m j hlt,←hsl];rfl)));have HAB:Hid (ab<wr.heap.size):=af (Nat.lt_of_lt_of_le hab HB.out.size);have Jl:Hid ((j:Int)<(m:Int)):=af (by omega);clear hab hca hsl hmt
   go_upto_region 4 with(fail)
   refine kS (σ:=Unit)
    (fun _ i=>match i with
    |0=>.slice (some ⟨ab,jb,none⟩) m c
    |1=>.int .i64 (j:Int)
    |2=>.pointer (some ⟨ab,jb+j,none⟩)
    |3=>.string sl
    |4=>.int .i64 ((k+j:Nat):Int)
    |5=>.string sl
    |6=>.bool false
    |_=>undef)
    (fun D _ wx=>Below wr.heap.size wr wx) () (fun D hD=>(ai _ _).drew) ?_ ?_
   ·refine Cs (fun D _ wx hR _ hd _ _ hs K hK=>?_) ?_
    ·have e0:=hs.o 0 (.slice (some ⟨ab,jb,none⟩) m c);clear hs;go_simp;exact hK () wx sv hR
    refine Cs (fun D _ wx hR _ hd _ _ hs K hK=>?_) ?_
    ·have e5:=hs.o 5 (.int .i64 (j:Int));clear hs;go_simp;exact hK () wx sv hR
    refine Cs (fun D _ wx hR _ hd _ _ hs K hK=>?_) ?_
    ·have e12:=hs.v 0 12 hd;have e13:=hs.v 1 13 hd;clear hs;have h0:=Jl.out;go_simp;exact hK () wx sv hR
    refine Cs (fun D _ wx hR _ hd _ _ hs K hK=>?_) ?_
    ·have e14:=hs.v 2 14 hd;clear hs;have c0:wx.cell? ⟨ab,jb+j,none⟩=some (.string sl):=(aC hR _ _ HAB.out).trans CA.out;go_simp;exact hK () wx sv hR
    refine Cs (fun D _ wx hR _ hd _ _ hs K hK=>?_) ?_
    ·have e1:=hs.o 1 (.int .i64 ((k+j:Nat):Int));clear hs;go_simp;exact hK () wx sv hR
    refine Cs (fun D _ wx hR _ hd _ _ hs K hK=>?_) ?_
    ·have e16:=hs.v 4 16 hd;have g16:=aZ e16;clear hs;go_simp;refine(HMT.out wx).mono ?_;rintro e2 w2 ⟨rfl,hb2⟩;exact hK () w2 sv (hR.trans (hb2.mono hR.size))
    refine Cs (fun D _ wx hR _ hd _ _ hs K hK=>?_) ?_
    ·have e15:=hs.v 3 15 hd;have e17:=hs.v 5 17 hd;clear hs;go_simp;exact hK () wx sv hR
    exact au.nil
   intro D _ wx hR hD;simp only[eG,Act.put,aO,aS,aV];have HX:=af (HB.out.trans (hR.mono HB.out.size));clear hR hD;go_wp2
   go_roundw
   case rel=>exact⟨j+1,by omega,by go_num,by go_num,HX.out⟩
   case measure=>simp[intOf];omega
  ·obtain rfl:j=m:=by omega
   go_wp2;go_ret;exact⟨rfl,HB.out⟩
theorem St.yP {w W:World} {L:List dW} (h:St w W L) (i:Nat) {A:Option Addr} {n c:Nat} {ls:List (List UInt8)} (hi:L[i]? =some (dZ (.slice A n c) ls)):bQ W W.heap.size 1 A n c (strs ls):=by
 obtain⟨A',c',hv,hr⟩:=h.lT i hi;simp only[Value.slice.injEq] at hv;obtain⟨rfl,rfl,rfl⟩:=hv;exact hr
theorem P9 (v:Value) (b x:aI) (A:Option Addr) (n c:Nat) (ls aw:List (List UInt8)) (w:World) (h:RdB w w.heap.size v b) (ha:bQ w w.heap.size 1 A n c (strs ls)) (hls:∀l∈ls,l.length≤1048576) (hx:jG b ls=(x,aw)):
  Calls Tryz.prog 19 #[v,.slice A n c] w fun e w'=>∃v va,e= .returned (.tuple #[v,va])∧St w w' [bF v x,dZ va aw]:=by
 have:=G8 v b A n c ls w h ha hls
 unfold Fv at this
 rw[hx] at this;exact this
theorem Fq (v:Value) (b x:aI) (A:Option Addr) (n c:Nat) (ls aw:List (List UInt8)) (w:World) (h:RdB w w.heap.size v b) (ha:bQ w w.heap.size 1 A n c (strs ls)) (he:qV w) (hp:kR w) (hls:∀l∈ls,l.length≤1048576) (hx:jG b ls=(x,aw)):
  Calls Tryz.prog 22 #[v,.slice A n c] w fun e w'=>∃v va,e= .returned (.tuple #[v,va])∧St w w' [bF v x,dZ va aw]:=by
 have:=G9 v b A n c ls w h ha hls he hp
 unfold Fv at this
 rw[hx] at this;exact this
theorem Td (b:aI) (ls:List (List UInt8)):(jG b ls).2.length≤40:=by
 by_cases h:aP b=true∧ls.length≤40
 ·rw[pX h.1 h.2,(Jq ls h.1).2.2];exact h.2
 ·rw[qU (by cases hb:aP b with
   |false=>exact .inl rfl
   |true=>exact .inr (fun h'=>h ⟨hb,h'⟩))]
  exact Nat.zero_le _
section
variable {H : Type} {enc : TypeId × Value → H} {W : World}
theorem G6 {a:Option Addr} {n c:Nat} {d:DataW H} {p:List MemPlace} (h:DataW.Trod enc Tryz.prog W 0 (fun _=>true) true 43 (.slice a n c) d p):∃ls:List (List UInt8),bQ W W.heap.size 1 a n c (strs ls)∧∀l∈ls,l.length≤9223372036854775807:=by
 obtain⟨fuel,hf⟩:=h
 rcases Go.Deep.open_strs Tryz.underlying43 Tryz.underlying9 (by kernel_rfl) hf with⟨e,_⟩ | ⟨a',len,cap,m,Sx,e,hb,hl,hm,hmm,_,hx⟩
 ·have e':[Value.slice a n c]=[Value.slice none 0 0]:=e;simp only[List.cons.injEq,Value.slice.injEq,and_true] at e';obtain⟨rfl,rfl,rfl⟩:=e';exact⟨[],⟨rfl,ay _,by unfold maxLen;omega,fun h0=>by omega⟩,fun l hl=>by cases hl⟩
 ·have e':[Value.slice a n c]=[Value.slice (some a') len cap]:=e;simp only[List.cons.injEq,Value.slice.injEq,and_true] at e';obtain⟨rfl,rfl,rfl⟩:=e';have hlm:n≤m:=by rw[hmm];split<;>omega
  refine⟨(List.range n).map fun i=>(Sx i).data.toList,⟨by simp[strs],hl,hm,fun h0=>?_⟩,fun l hl=>?_⟩
  ·have ha:a'.spot=none:=by
    have q:=(hx 0 (by omega)).1
    cases hs:a'.spot with
    |none=>rfl
    |some s=>
     simp only[World.cell?,Addr.add,hs] at q
     split at q<;>simp_all
   obtain⟨b,off,s⟩:=a'
   simp only at ha
   subst ha;have hlt:b<W.heap.size:=World.block_lt_of_cell? W _ (hx 0 (by omega)).1;refine⟨b,off,rfl,hlt,fun i v hv=>?_⟩
   unfold strs at hv
   rw[List.map_map,List.getElem?_map] at hv;obtain⟨j,hj,e⟩:=Option.map_eq_some_iff.1 hv;obtain⟨hj1,hj2⟩:=aW.1 hj
   simp at hj1 hj2
   subst hj2 e;have q:=(hx i (by omega)).1;rw[Addr.add_lit] at q;exact q
  ·obtain⟨i,hi,rfl⟩:=List.mem_map.1 hl
   have:=(hx i (by have:=List.mem_range.1 hi;omega)).2
   unfold maxLen at this
   simp only[Array.length_toList];have e:(Sx i).data.size=(Sx i).size:=rfl
   omega
end
end Go.Proofs.YtkmcengmglgdeaaGreatDoor
