/- Joined texts: StrEq, DrawBS, SayN, SayR, CutR. -/
import Derived.Test.YtkmcengmglgdeaaGreatDoorSActR
import Derived.Test.YtkmcengmglgdeaaGreatDoorSTDraw2
import Derived.Test.YtkmcengmglgdeaaGreatDoorSLineD
import Derived.Test.YtkmcengmglgdeaaGreatDoorSJourP

namespace Go.Proofs.YtkmcengmglgdeaaGreatDoor
set_option linter.unusedVariables false
set_option linter.unusedSimpArgs false
set_option maxRecDepth 100000
set_option maxHeartbeats 8000000
open Go.ChangeShapes Go.WideShapes Go.ChangeAt Go.RowKit
theorem wQ (A:Option Addr) (n c:Nat) (ls:List (List UInt8)) (A':Option Addr) (n' c':Nat) (ms:List (List UInt8)) (w:World) (h:bJ w w.heap.size 1 A n c (strs ls)) (h':bJ w w.heap.size 1 A' n' c' (strs ms)):
  Calls Tryz.prog 30 #[.slice A n c,.slice A' n' c'] w fun e w'=>e= .returned (.bool (decide (ls=ms)))∧Below w.heap.size w w':=by
 have hl:ls.length=n:=by have:=h.len;rw[oQ] at this;omega
 have hl':ms.length=n':=by have:=h'.len;rw[oQ] at this;omega
 have hcm:=h.dw;have hcp:=h.cap
 unfold maxLen at hcm
 by_cases hn:n=n'
 case neg=>
  have HV:Bx (decide (ls=ms)=false):=Bx.mk (decide_eq_false (fun e=>hn (by rw[←hl,←hl',e])));have hne:((n:Int) == (n':Int))=false:=beq_false_of_ne (by omega);clear h h' hl hl' hn;go_enter Tryz.func30,Tryz.ntmps30;go_wp2;go_ret;exact⟨aY HV.out.symm,ai _ _⟩
 subst hn;have H:=af h;have H':=af h';have HL:=af hl;have Qy:=af hl';clear h h' hl hl';go_enter Tryz.func30,Tryz.ntmps30;go_wp2
 go_loopw [5] (fun i wr=>∃k:Nat,k≤n∧i= .int .i64 (k:Int)∧Hid (ls.take k=ms.take k)∧Below w.heap.size w wr) (fun i _=>n-(intOf i).toNat)
 case atStart=>exact⟨0,by omega,rfl,af rfl,ai _ _⟩
 case round=>
  obtain⟨k,hk,rfl,HM,hb⟩:=hrel;have HB:=af hb;clear hb
  by_cases hlt:k<n
  ·obtain⟨ab,nK,rfl,hab,hca⟩:=H.out.at_ (by omega);obtain⟨bb,JV,rfl,hbb,hcb⟩:=H'.out.at_ (by omega);obtain⟨l,hl⟩:∃l,ls[k]? =some l:=⟨ls[k]'(by rw[HL.out];exact hlt),bH _⟩;obtain⟨m,hm⟩:∃m,ms[k]? =some m:=⟨ms[k]'(by rw[Qy.out];exact hlt),bH _⟩;have ca:wr.cell? ⟨ab,nK+k,none⟩=some (.string ⟨l.toArray⟩):=(aF HB.out ab _ hab).trans (hca k _ (by unfold strs;rw[List.getElem?_map,hl];rfl));have cb:wr.cell? ⟨bb,JV+k,none⟩=some (.string ⟨m.toArray⟩):=(aF HB.out bb _ hbb).trans (hcb k _ (by unfold strs;rw[List.getElem?_map,hm];rfl));have HAB:Hid (ab<wr.heap.size):=af (Nat.lt_of_lt_of_le hab HB.out.size);have HBB:Hid (bb<wr.heap.size):=af (Nat.lt_of_lt_of_le hbb HB.out.size);have Q5:Hid ((k:Int)<(n:Int)):=af (by omega)
   by_cases he:l=m
   ·subst he;have iO:Hid (ls.take (k+1)=ms.take (k+1)):=af (by rw[List.take_add_one,List.take_add_one,HM.out,hl,hm]);obtain⟨sl,hsl⟩:∃s,(⟨l.toArray⟩:ByteArray)=s:=⟨_,rfl⟩;rw[hsl] at ca cb;have CA:=af ca;have CB:=af cb;clear ca cb hl hm hsl hca hcb hab hbb
    go_upto_region 6 with(fail)
    refine kG (σ:=Unit)
     (fun _ i=>match i with
     |0=>.slice (some ⟨ab,nK,none⟩) n c
     |1=>.int .i64 (k:Int)
     |2=>.pointer (some ⟨ab,nK+k,none⟩)
     |3=>.string sl
     |4=>.slice (some ⟨bb,JV,none⟩) n c'
     |5=>.int .i64 (k:Int)
     |6=>.pointer (some ⟨bb,JV+k,none⟩)
     |7=>.string sl
     |8=>.bool false
     |_=>undef)
     (fun D _ wx=>Below wr.heap.size wr wx) () (fun D hD=>(ai _ _).drew) ?_ ?_
    ·refine Cs (fun D _ wx hR _ hd _ _ hs K hK=>?_) ?_
     ·have e0:=hs.o 0 (.slice (some ⟨ab,nK,none⟩) n c);clear hs;go_simp;exact hK () wx sv hR
     refine Cs (fun D _ wx hR _ hd _ _ hs K hK=>?_) ?_
     ·have e5:=hs.o 5 (.int .i64 (k:Int));clear hs;go_simp;exact hK () wx sv hR
     refine Cs (fun D _ wx hR _ hd _ _ hs K hK=>?_) ?_
     ·have e17:=hs.v 0 17 hd;have e18:=hs.v 1 18 hd;clear hs;have h0:=Q5.out;go_simp;exact hK () wx sv hR
     refine Cs (fun D _ wx hR _ hd _ _ hs K hK=>?_) ?_
     ·have e19:=hs.v 2 19 hd;clear hs;have c0:wx.cell? ⟨ab,nK+k,none⟩=some (.string sl):=(aF hR _ _ HAB.out).trans CA.out;go_simp;exact hK () wx sv hR
     refine Cs (fun D _ wx hR _ hd _ _ hs K hK=>?_) ?_
     ·have e1:=hs.o 1 (.slice (some ⟨bb,JV,none⟩) n c');clear hs;go_simp;exact hK () wx sv hR
     refine Cs (fun D _ wx hR _ hd _ _ hs K hK=>?_) ?_
     ·have e5:=hs.o 5 (.int .i64 (k:Int));clear hs;go_simp;exact hK () wx sv hR
     refine Cs (fun D _ wx hR _ hd _ _ hs K hK=>?_) ?_
     ·have e21:=hs.v 4 21 hd;have e22:=hs.v 5 22 hd;clear hs;have h0:=Q5.out;go_simp;exact hK () wx sv hR
     refine Cs (fun D _ wx hR _ hd _ _ hs K hK=>?_) ?_
     ·have e23:=hs.v 6 23 hd;clear hs;have c0:wx.cell? ⟨bb,JV+k,none⟩=some (.string sl):=(aF hR _ _ HBB.out).trans CB.out;go_simp;exact hK () wx sv hR
     refine Cs (fun D _ wx hR _ hd _ _ hs K hK=>?_) ?_
     ·have e20:=hs.v 3 20 hd;have e24:=hs.v 7 24 hd;clear hs;go_simp;exact hK () wx sv hR
     exact aj.nil
    intro D _ wx hR hD;simp only[eH,Act.put,aO,aU,aW];have HX:=af (HB.out.trans (hR.mono HB.out.size));clear hR hD;go_wp2
    go_roundw
    case rel=>exact⟨k+1,by omega,by go_num,iO,HX.out⟩
    case measure=>simp[intOf];omega
   ·have HV:Bx (decide (ls=ms)=false):=Bx.mk (decide_eq_false (fun e=>he (by rw[e,hm] at hl;injection hl with hl;exact hl.symm)));have ac8:Hid (((⟨l.toArray⟩:ByteArray).toList == (⟨m.toArray⟩:ByteArray).toList)=false):=af (by rw[Lib.toList_data,Lib.toList_data];exact beq_false_of_ne he);obtain⟨sl,hsl⟩:∃s,(⟨l.toArray⟩:ByteArray)=s:=⟨_,rfl⟩;obtain⟨sm,hsm⟩:∃s,(⟨m.toArray⟩:ByteArray)=s:=⟨_,rfl⟩;rw[hsl] at ca;rw[hsm] at cb;have WJ:Hid ((sl.toList == sm.toList)=false):=af (by rw[←hsl,←hsm];exact ac8.out);have CA:=af ca;have CB:=af cb;clear ca cb hl hm hsl hsm hca hcb hab hbb he ac8
    go_upto_region 6 with(fail)
    refine kG (σ:=Unit)
     (fun _ i=>match i with
     |0=>.slice (some ⟨ab,nK,none⟩) n c
     |1=>.int .i64 (k:Int)
     |2=>.pointer (some ⟨ab,nK+k,none⟩)
     |3=>.string sl
     |4=>.slice (some ⟨bb,JV,none⟩) n c'
     |5=>.int .i64 (k:Int)
     |6=>.pointer (some ⟨bb,JV+k,none⟩)
     |7=>.string sm
     |8=>.bool true
     |_=>undef)
     (fun D _ wx=>Below wr.heap.size wr wx) () (fun D hD=>(ai _ _).drew) ?_ ?_
    ·refine Cs (fun D _ wx hR _ hd _ _ hs K hK=>?_) ?_
     ·have e0:=hs.o 0 (.slice (some ⟨ab,nK,none⟩) n c);clear hs;go_simp;exact hK () wx sv hR
     refine Cs (fun D _ wx hR _ hd _ _ hs K hK=>?_) ?_
     ·have e5:=hs.o 5 (.int .i64 (k:Int));clear hs;go_simp;exact hK () wx sv hR
     refine Cs (fun D _ wx hR _ hd _ _ hs K hK=>?_) ?_
     ·have e17:=hs.v 0 17 hd;have e18:=hs.v 1 18 hd;clear hs;have h0:=Q5.out;go_simp;exact hK () wx sv hR
     refine Cs (fun D _ wx hR _ hd _ _ hs K hK=>?_) ?_
     ·have e19:=hs.v 2 19 hd;clear hs;have c0:wx.cell? ⟨ab,nK+k,none⟩=some (.string sl):=(aF hR _ _ HAB.out).trans CA.out;go_simp;exact hK () wx sv hR
     refine Cs (fun D _ wx hR _ hd _ _ hs K hK=>?_) ?_
     ·have e1:=hs.o 1 (.slice (some ⟨bb,JV,none⟩) n c');clear hs;go_simp;exact hK () wx sv hR
     refine Cs (fun D _ wx hR _ hd _ _ hs K hK=>?_) ?_
     ·have e5:=hs.o 5 (.int .i64 (k:Int));clear hs;go_simp;exact hK () wx sv hR
     refine Cs (fun D _ wx hR _ hd _ _ hs K hK=>?_) ?_
     ·have e21:=hs.v 4 21 hd;have e22:=hs.v 5 22 hd;clear hs;have h0:=Q5.out;go_simp;exact hK () wx sv hR
     refine Cs (fun D _ wx hR _ hd _ _ hs K hK=>?_) ?_
     ·have e23:=hs.v 6 23 hd;clear hs;have c0:wx.cell? ⟨bb,JV+k,none⟩=some (.string sm):=(aF hR _ _ HBB.out).trans CB.out;go_simp;exact hK () wx sv hR
     refine Cs (fun D _ wx hR _ hd _ _ hs K hK=>?_) ?_
     ·have e20:=hs.v 3 20 hd;have e24:=hs.v 7 24 hd;clear hs;have h0:=WJ.out;go_simp;exact hK () wx sv hR
     exact aj.nil
    intro D _ wx hR hD;simp only[eH,Act.put,aO,aU,aW];have HX:=af (HB.out.trans (hR.mono HB.out.size));clear hR hD;go_wp2;go_ret;exact⟨aY (by rw[HV.out]),HX.out⟩
  ·obtain rfl:k=n:=by omega
   have HV:Bx (decide (ls=ms)=true):=Bx.mk (decide_eq_true (by have:=HM.out;rwa[gW (by rw[HL.out];omega),gW (by rw[Qy.out];omega)] at this));go_wp2;go_ret;exact⟨aY HV.out.symm,HB.out⟩
theorem J7 (A:Option Addr) (n c:Nat) (xs:List Int) (w:World) (h:jd .u8 w w.heap.size A n c xs):
  Calls Tryz.prog 29 #[.slice A n c] w fun e w'=>∃v b va ls,e= .returned (.tuple #[v,va])∧(∀l∈ls,l.length≤1000)∧ls.length≤41∧St w w' [aI v b,bP va ls]:=by
 have aS:=af ((St.refl w).alloc #[.int .i64 0,.slice none 0 0,.slice none 0 0,.slice none 0 0,.int .i64 0] 28);have H:=af h;clear h
 have hmk:∀W,(Instr.makeSlice 43 (.int .i64 41) (.int .i64 41)).run Tryz.prog W= .ok (.slice (some ⟨W.heap.size,0,none⟩) 41 41) (W.alloc (.cells (Array.replicate 41 (.string .empty)) 9)):=by
  intro W
  kernel_rfl
 have Yu:=af hmk;clear hmk;go_enter Tryz.func29,Tryz.ntmps29
 go_wp2_with fail
 refine(NQ aS.out H.out).mono ?_;rintro e w1 ⟨g,rfl,s1⟩;have bf:=af s1;clear s1 aS
 go_wp2_with fail
 refine(NR bf.out (by omega) 12).mono ?_;rintro e w2 ⟨v2,b,rfl,s2⟩;obtain⟨B1,m1,d1,B2,m2,d2,B3,m3,d3,hv⟩:=s2.gU 1 rfl;obtain⟨os,hos⟩:∃x,b.order.start=x:=⟨_,rfl⟩;obtain⟨st,hst⟩:∃x,b.state=x:=⟨_,rfl⟩;rw[hos,hst] at hv;subst hv;obtain⟨g5,hg5⟩:∃x,w2.heap.size=x:=⟨_,rfl⟩;obtain⟨g6,yu⟩:∃x,g5+1=x:=⟨_,rfl⟩
 have HS2:Hid (St w ((w2.alloc (.cells #[.int .i64 os,.slice B1 m1 d1,.slice B2 m2 d2,.slice B3 m3 d3,.int .i64 st] 28)).alloc (.cells #[] 9)) [fG w g 400,bP (.slice (some ⟨g6,0,none⟩) 0 0) [],ah w.heap.size 28 #[.int .i64 0,.slice none 0 0,.slice none 0 0,.slice none 0 0,.int .i64 0],ah g5 28 #[.int .i64 os,.slice B1 m1 d1,.slice B2 m2 d2,.slice B3 m3 d3,.int .i64 st],aI (.agg #[.int .i64 os,.slice B1 m1 d1,.slice B2 m2 d2,.slice B3 m3 d3,.int .i64 st]) b]):=af (by
  have h1:=s2.alloc #[.int .i64 os,.slice B1 m1 d1,.slice B2 m2 d2,.slice B3 m3 d3,.int .i64 st] 28;rw[hg5] at h1
  exact(h1.call (St.Iz _ g6 (by simp[hg5,yu]))).pick [0,4,2,3,1] (by decide) rfl rfl)
 clear s2 bf hos hst
 go_wp2_with fail
 refine(dQ HS2.out (by omega) 10).mono ?_;rintro e w3 ⟨y,rfl,hy,s3⟩;have hy5:0≤y∧y<10:=⟨hy.1,hy.2.1 (by omega)⟩;clear hy;obtain⟨yn,rfl⟩:=bC hy5.1;have hyn:yn<10:=by omega
 clear hy5;have cu:=af s3;clear s3 HS2;go_wp2
 go_loopw [7,6] (fun i va wr=>∃(k:Nat) (x:Value) (ls:List (List UInt8)),k≤yn∧i= .int .i64 (k:Int)∧x=va∧ls.length=yn-k∧Hid (∀l∈ls,l.length≤1000)∧St w wr [fG w g (401+20*(yn-k)),bP x ls,ah w.heap.size 28 #[.int .i64 0,.slice none 0 0,.slice none 0 0,.slice none 0 0,.int .i64 0],ah g5 28 #[.int .i64 os,.slice B1 m1 d1,.slice B2 m2 d2,.slice B3 m3 d3,.int .i64 st],aI (.agg #[.int .i64 os,.slice B1 m1 d1,.slice B2 m2 d2,.slice B3 m3 d3,.int .i64 st]) b]) (fun i _ _=>(intOf i).toNat)
 case atStart=>exact⟨yn,_,[],by omega,rfl,rfl,by simp,af (by simp),by have h:=cu.out;rw[show 401+20*(yn-yn)=400+1 by omega];exact h⟩
 case round=>
  clear cu;obtain⟨k,x,ls,hk,rfl,rfl,hll,HLS,S⟩:=hrel;have HS:=af S;have q5:=S.cells 3 rfl;have q2:=S.cells 2 rfl;have f2:=S.free 2 rfl;clear S
  by_cases hlt:0<k
  ·have hki:(0:Int)<(k:Int):=by omega
   clear q2 f2
   go_wp2_with fail
   refine(NS HS.out (by omega) 3 rfl).mono ?_;rintro e w4 ⟨s,rfl,hsz,s4⟩;have fH:=af (s4.swap2)
   have ads:Hid (∀l∈ls++[s.data.toList],l.length≤1000):=af (fun l hl=>by
    rcases List.mem_append.1 hl with h | h
    ·exact HLS.out l h
    ·rw[List.mem_singleton.1 h,←Lib.size_eq];omega)
   clear s4 HS q5 hsz;have HO:=af (fH.out.row 0 rfl);have ZI:=fH.out.size
   go_wp2_with (at_builtin;refine cZ AB rfl (.tmp 19) (.tmp 23) rfl w.heap.size _ _ _ rfl (HO.out.alloc _) _ _ 1 1 [.string s] rfl (bJ.new _ [.string s] 9 1 1 rfl (by unfold maxLen;omega)) (by simp[Value.oneCell']) (by omega) (by omega) (by simp;omega) ?_;intro v9 w9 uq C9 Dc;have fP:=af (fH.out.Df (l:=s.data.toList) uq C9 Dc).swap2;clear uq C9 Dc)
   go_wp2
   go_roundw
   case rel=>exact⟨k-1,_,ls++[s.data.toList],by omega,by go_num,rfl,by simp;omega,ads,by have h:=fP.out;rw[show 401+20*(yn-(k-1))=401+20*(yn-k)+20 by omega];exact h⟩
   case measure=>simp[intOf];omega
  ·obtain rfl:k=0:=by omega
   clear q2 f2 q5
   go_wp2_with fail
   refine(rW HS.out (by omega) 30).mono ?_;rintro e w4 ⟨od,rfl,s4⟩;have fH:=af s4;have q5:=s4.cells 3 rfl;have q2:=s4.cells 2 rfl;have f2:=s4.free 2 rfl;clear s4 HS
   cases od with
   |false=>
    have fP:=af ((fH.out.fF 2 rfl (.int .i64 os) (.slice B1 m1 d1) (.slice B2 m2 d2) (.slice B3 m3 d3) (.int .i64 st)).pick [4,1] (by decide) rfl rfl);go_wp2;refine bodyPost_ret (v:=.tuple #[.agg #[.int .i64 os,.slice B1 m1 d1,.slice B2 m2 d2,.slice B3 m3 d3,.int .i64 st],x]) (by simp[results,Tryz.results29,go_sem,q2]) rfl ⟨.agg #[.int .i64 os,.slice B1 m1 d1,.slice B2 m2 d2,.slice B3 m3 d3,.int .i64 st],b,x,ls,rfl,HLS.out,by omega,fP.out⟩
   |true=>
    have hmk:=Yu.out;obtain⟨g9,WC⟩:∃g,w4.heap.size=g:=⟨_,rfl⟩
    have dX:Hid (St w (w4.alloc (.cells (Array.replicate 41 (.string .empty)) 9)) [bP (.slice (some ⟨g9,0,none⟩) 41 41) (List.replicate 41 []),ah w.heap.size 28 #[.int .i64 0,.slice none 0 0,.slice none 0 0,.slice none 0 0,.int .i64 0],ah g5 28 #[.int .i64 os,.slice B1 m1 d1,.slice B2 m2 d2,.slice B3 m3 d3,.int .i64 st],aI (.agg #[.int .i64 os,.slice B1 m1 d1,.slice B2 m2 d2,.slice B3 m3 d3,.int .i64 st]) b]):=af (by
     have h1:=(fH.out.alloc1 (Array.replicate 41 (.string .empty)) 9).pick (L':=[ah w4.heap.size 9 (Array.replicate 41 (.string .empty)),ah w.heap.size 28 #[.int .i64 0,.slice none 0 0,.slice none 0 0,.slice none 0 0,.int .i64 0],ah g5 28 #[.int .i64 os,.slice B1 m1 d1,.slice B2 m2 d2,.slice B3 m3 d3,.int .i64 st],aI (.agg #[.int .i64 os,.slice B1 m1 d1,.slice B2 m2 d2,.slice B3 m3 d3,.int .i64 st]) b]) [1,3,4,5] (by decide) rfl rfl;rw[WC] at h1
     exact h1.see fun F h _=>by
      obtain⟨h1,rfl⟩:=h
      exact⟨⟨by simp[strs],.inr ⟨g9,41,_,rfl,Nat.zero_le _,h1,aA _,by unfold maxLen;omega,by simp,by rfl⟩⟩,rfl⟩)
    have r5:=dX.out.cells 2 rfl;have r2:=dX.out.cells 1 rfl;have s2:=dX.out.free 1 rfl;have fP:=af ((dX.out.fF 1 rfl (.int .i64 os) (.slice B1 m1 d1) (.slice B2 m2 d2) (.slice B3 m3 d3) (.int .i64 st)).pick [3,0] (by decide) rfl rfl);clear q5 q2 f2 fH;go_wp2;refine bodyPost_ret (v:=.tuple #[.agg #[.int .i64 os,.slice B1 m1 d1,.slice B2 m2 d2,.slice B3 m3 d3,.int .i64 st],.slice (some ⟨g9,0,none⟩) 41 41]) (by simp[results,Tryz.results29,go_sem,r2]) rfl ⟨.agg #[.int .i64 os,.slice B1 m1 d1,.slice B2 m2 d2,.slice B3 m3 d3,.int .i64 st],b,.slice (some ⟨g9,0,none⟩) 41 41,List.replicate 41 [],rfl,fun l hl=>by rw[(List.mem_replicate.1 hl).2];simp,by simp,fP.out⟩
theorem Yd {n:Nat} (h:n<32):gK n≠[]:=by
 unfold gK
 split
 ·simp
 ·exact JE n h ‹_›
theorem Nz (z:Int):nC z≠[]:=by
 unfold nC
 split
 ·simp[acY]
 ·split
  ·simp[QT]
  ·simp[Nr]
theorem Ye (xs:List Int):FP xs≠[]:=by
 cases xs with
 |nil=>simp[FP,tX]
 |cons x r=>simp[FP,Jt]
theorem Yf {b:aG} (l:List UInt8) (h:aN b=true):rE b l≠[]:=by
 obtain⟨h1,-,h3,-⟩:=bF h
 unfold rE
 by_cases e1:l=Af
 ·rw[if_pos e1];exact Yd (by omega)
 rw[if_neg e1]
 by_cases e2:l=Hf
 ·rw[if_pos e2];simp[rF]
 rw[if_neg e2]
 by_cases e3:l=Hg
 ·rw[if_pos e3];exact Jt _
 rw[if_neg e3]
 by_cases e4:l=Sv
 ·rw[if_pos e4];exact Ye _
 rw[if_neg e4]
 by_cases e5:l=Hq
 ·rw[if_pos e5]
  cases dB b with
  |none=>simp[tX]
  |some p=>exact Jt _
 rw[if_neg e5]
 by_cases e6:l=Aj
 ·rw[if_pos e6];split<;>simp[aaE,noW]
 rw[if_neg e6]
 by_cases e7:l=Ak
 ·rw[if_pos e7];exact TP (fZ h1 h3)
 rw[if_neg e7]
 split
 ·exact Nz _
 ·simp[Ep]
theorem Yg {b:aG} (l:List UInt8) (h:aN b=true):(lQ b l).2≠[]:=by
 unfold lQ
 rw[if_pos h]
 cases readA l with
 |some a=>
  obtain⟨k,n⟩:=a
  show(if _ then okW else noW)≠[]
  split<;>simp[okW,noW]
 |none=>
  show(if l=kC then _ else(b,rE b l)).2≠[]
  split
  ·show(if _ then tX else okW)≠[]
   split<;>simp[okW,tX]
  ·exact Yf l h
theorem Wy {b:aG} (ls:List (List UInt8)) (h:aN b=true):∀a∈(kF b ls).2,a≠[]:=by
 induction ls generalizing b with
 |nil=>intro a ha;cases ha
 |cons l ls ih=>
  intro a ha
  rcases List.mem_cons.1 ha with e | e
  ·rw[e];exact Yg l h
  ·exact ih (QU l h).1 a e
theorem Ko {b:aG} {ls:List (List UInt8)} (h:aN b=true) (hl:ls.length≤40) (k:Nat) (hk:k≤ls.length):
  aN (dW b ls).1=true∧(dW b ls).1.order=b.order∧(dW b ls).2.length=ls.length∧(∀a∈(dW b ls).2,a≠[])∧
   aN (dW b (ls.take k)).1=true∧(dW b (ls.take k)).2.length=k∧(dW (dW b (ls.take k)).1 (ls.drop k)).1=(dW b ls).1∧(dW (dW b (ls.take k)).1 (ls.drop k)).2.length=ls.length-k∧
   (dW b (ls.take k)).2++(dW (dW b (ls.take k)).1 (ls.drop k)).2=(dW b ls).2:=by
 have e:∀(b:aG) (ls:List (List UInt8)),aN b=true→ls.length≤40→dW b ls=kF b ls:=fun b ls h h'=>by
  unfold dW
  rw[if_pos (by rw[h,decide_eq_true h'];rfl)]
 obtain⟨h1,h2,h3⟩:=zq ls h;obtain⟨k1,k2,k3⟩:=zq (ls.take k) h;obtain⟨m1,m2,m3⟩:=zq (ls.drop k) k1;have lt:(ls.take k).length=k:=by rw[List.length_take];omega
 have ld:(ls.drop k).length=ls.length-k:=by rw[List.length_drop]
 rw[e b ls h hl,e b (ls.take k) h (by omega),e _ (ls.drop k) k1 (by omega)];have ha:=zo b (ls.take k) (ls.drop k);rw[List.take_append_drop] at ha;exact⟨h1,h2,h3,Wy ls h,k1,by rw[k3,lt],by rw[ha],by rw[m3,ld],by rw[ha]⟩
theorem St.BM {w W:World} {L:List dh} (h:St w W L) (i:Nat) {A:Option Addr} {n c:Nat} {ls:List (List UInt8)} (hi:L[i]? =some (bP (.slice A n c) ls)):bJ W W.heap.size 1 A n c (strs ls):=by
 obtain⟨A',c',hv,hr⟩:=h.oD i hi;simp only[Value.slice.injEq] at hv;obtain⟨rfl,rfl,rfl⟩:=hv;exact hr
theorem QY (v:Value) (b x:aG) (A:Option Addr) (n c:Nat) (ls aw:List (List UInt8)) (w:World) (h:RdB w w.heap.size v b) (ha:bJ w w.heap.size 1 A n c (strs ls)) (hls:∀l∈ls,l.length≤1048576) (hx:dW b ls=(x,aw)):
  Calls Tryz.prog 19 #[v,.slice A n c] w fun e w'=>∃v va,e= .returned (.tuple #[v,va])∧St w w' [aI v x,bP va aw]:=by
 have:=JS v b A n c ls w h ha hls
 unfold Iw at this
 rw[hx] at this;exact this
theorem zD (v:Value) (b x:aG) (A:Option Addr) (n c:Nat) (ls aw:List (List UInt8)) (w:World) (h:RdB w w.heap.size v b) (ha:bJ w w.heap.size 1 A n c (strs ls)) (he:rQ w) (hp:lF w) (hls:∀l∈ls,l.length≤1048576) (hx:dW b ls=(x,aw)):
  Calls Tryz.prog 22 #[v,.slice A n c] w fun e w'=>∃v va,e= .returned (.tuple #[v,va])∧St w w' [aI v x,bP va aw]:=by
 have:=JU v b A n c ls w h ha hls he hp
 unfold Iw at this
 rw[hx] at this;exact this
theorem Ug (b:aG) (ls:List (List UInt8)):(dW b ls).2.length≤40:=by
 by_cases h:aN b=true∧ls.length≤40
 ·rw[vN h.1 h.2,(zq ls h.1).2.2];exact h.2
 ·rw[rV (by cases hb:aN b with
   |false=>exact .inl rfl
   |true=>exact .inr (fun h'=>h ⟨hb,h'⟩))]
  exact Nat.zero_le _
theorem TY (a:Addr):a.add 0=a:=by cases a with | mk b o f=>cases f<;>simp[Addr.add]
theorem Wx (A:Option Addr):A.map (·.add 0)=A:=by cases A<;>simp[TY]
def QZ (A:Option Addr) (c h size:Nat):Option Addr:=if c=h then A else A.map (·.add (h*size))
theorem bJ.abf {w:World} {B n c:Nat} {A:Option Addr} {ls:List (List UInt8)} (H:bJ w B 1 A n c (strs ls)) {h:Nat} (hh:h≤n):bJ w B 1 A h c (strs (ls.take h)):=by
 have hl:=H.len;rw[oQ] at hl;refine⟨by rw[oQ,List.length_take];omega,by have:=H.cap;omega,H.dw,fun h0=>?_⟩;obtain⟨b,off,e,hb,hc⟩:=H.at_ (by omega);refine⟨b,off,e,hb,fun i v hv=>hc i v ?_⟩
 unfold strs at hv ⊢
 rw[List.map_take] at hv;have hi:=(bI.1 hv).1;rw[List.length_take] at hi
 rwa[List.getElem?_take_of_lt (by omega)] at hv
theorem bJ.abg {w:World} {B n c:Nat} {A:Option Addr} {ls:List (List UInt8)} (H:bJ w B 1 A n c (strs ls)) {h:Nat} (hh:h≤n):bJ w B 1 (QZ A c h 1) (n-h) (c-h) (strs (ls.drop h)):=by
 have hl:=H.len;rw[oQ] at hl;have hcap:=H.cap;refine⟨by rw[oQ,List.length_drop];omega,by omega,by have:=H.dw;unfold maxLen at this ⊢;omega,fun h0=>?_⟩;obtain⟨b,off,e,hb,hc⟩:=H.at_ (by omega);refine⟨b,off+h*1,?_,hb,fun i v hv=>?_⟩
 ·unfold QZ;rw[if_neg (by omega),e];simp[Addr.add_lit]
 ·rw[Nat.add_assoc];refine hc (h*1+i) v ?_
  unfold strs at hv ⊢
  rw[List.map_drop,List.getElem?_drop] at hv
  rwa[Nat.mul_one]
section
variable {P : Program} {o : Oper} {a : Act} {K : Act → World → Prop} {Q : Exit → Act → World → Prop} {w : World}
theorem step_take (t:TypeId) (x q:Operand) (hop:o.op=Op.slice t x none (some q) none) (size:Nat) (ht:P.underlying t=some (.slice (P.elem t))) (hs:∀w,(sizeOf (P.elem t)).run P w= .ok size w)
  (A:Option Addr) (n c h:Nat) (hx:a.eval x= .slice A n c) (hq:a.eval q= .int .i64 (h:Int)) (hh:h≤c) (hK:K (a.put o.dst (.slice A h c)) w):Oper.wp P o a w K Q:=by
 have hrun:(Instr.slice t (.slice A n c) none (some (.int .i64 (h:Int))) none).run P w= .ok (.slice A h c) w:=by
  rw[run_slice_h w t A n c ht .i64 h (by omega) (by omega),hs];have h0:(if c=0 then A else A.map (·.add (0*size)))=A:=by rw[Nat.zero_mul];split;rfl;exact Wx A
  simp only[Result.andThen,sliced,h0,bW,Nat.sub_zero]
 unfold Oper.wp
 simp[execOp,hop,hx,hq,run_sliceAt_slice _ _ _ _ _ _ ht,hrun,Result.andThen]
 exact hK
theorem step_drop (t:TypeId) (x q:Operand) (hop:o.op=Op.slice t x (some q) none none) (size:Nat) (ht:P.underlying t=some (.slice (P.elem t))) (hs:∀w,(sizeOf (P.elem t)).run P w= .ok size w)
  (A:Option Addr) (n c h:Nat) (hx:a.eval x= .slice A n c) (hq:a.eval q= .int .i64 (h:Int)) (hh:h≤n) (hK:K (a.put o.dst (.slice (QZ A c h size) (n-h) (c-h))) w):Oper.wp P o a w K Q:=by
 have hrun:(Instr.slice t (.slice A n c) (some (.int .i64 (h:Int))) none none).run P w= .ok (.slice (QZ A c h size) (n-h) (c-h)) w:=by
  rw[run_slice_l w t A n c ht .i64 h (by omega) (by omega),hs];simp only[Result.andThen,sliced,QZ,bW]
 unfold Oper.wp
 simp[execOp,hop,hx,hq,run_sliceAt_slice _ _ _ _ _ _ ht,hrun,Result.andThen]
 exact hK
end
theorem P6 (w:World):(sizeOf (Tryz.prog.elem 43)).run Tryz.prog w= .ok 1 w:=by
 obtain⟨i,h1,-,h3,-⟩:=AB.hi;have e:Tryz.prog.elem 43=9:=by kernel_rfl
 rw[e]
 simp[sizeOf,typeInfo,h1,h3,go_sem]
theorem P7 {P:Program} {t e:TypeId} {z:Value} {size bytes:Nat} (E:qE P t e z size bytes) {w:World} {ops:Array Oper} {rest:List Oper} {o:Oper} {a:Act} {Q:Exit→Act→World→Prop} (hw:Region.wanted o (yielded ops a.tmps)=true) (s x:Operand)
  (ho:o.op= .call { callee:=.builtin .append,args:=#[s,x],argTypes:=#[t,t] })
  (base:Nat) (v:Value) (n:Nat) (xs:List Value) (hs:a.eval s=v) (hown:w.ownsRow base e size v n xs)
  (B:Nat) (A:Option Addr) (m c:Nat) (news:List Value) (hx:a.eval x= .slice A m c) (hr:bJ w B size A m c news) (h1:∀u∈news,u.oneCell'=true)
  (hbytes:(n+m)*bytes≤140737488355328) (h63:n+m≤140737488355328) (hbase:base≤w.heap.size)
  (h:∀v' w',w'.ownsRow base e size v' (n+m) (xs++news)→w.grownBy w' v.ownBlock→(v'.ownBlock=v.ownBlock∨v'.ownBlock=some w.heap.size)→wpList P ops Q rest (a.put o.dst v') w'):wpList P ops Q (o::rest) a w:=by
 obtain⟨i,hi,hz,hsize,hby⟩:=E.hi;refine BigFrame.wpList_want hw fun K hK=>?_
 by_cases hm:m=0
 ·subst hm;obtain rfl:news=[]:=List.eq_nil_of_length_eq_zero (by simpa using hr.len)
  have key:(Builtin.append_ #[t,t] o.type #[v,.slice A 0 c]).run P w= .ok v w:=by
   rcases hown.2 with⟨rfl,rfl⟩ | ⟨g,cap,cur,rfl,_,_,hnc,_⟩
   ·cases A<;>simp[Builtin.append_,run_underlying E.ht,sizeOf,typeInfo,hi,Builtin.lenOf,Builtin.firstCells,loadCells,loadCellsFrom]
   ·cases A<;>simp[Builtin.append_,run_underlying E.ht,sizeOf,typeInfo,hi,Builtin.lenOf,Builtin.firstCells,hnc,storeCells,loadCells,loadCellsFrom]
  unfold Oper.wp execOp
  simp only[ho,resolve,invoke,builtin,Sem.run_bind,Sem.run_pure,Result.andThen_ok,List.map_toArray,List.map_cons,List.map_nil,hs,hx,key];exact hK _ _ (h v w (by simpa using hown) (World.grownBy.refl w _) (.inl rfl))
 ·obtain⟨b,off,rfl,hb,hc⟩:=hr.at_ (by omega);obtain⟨v',w',hrun,h2,h3,h4,h5⟩:=run_append_own_at (P:=P) w base t o.type e i z size bytes E.ht hi hz hsize hby E.hzs E.hsz v n xs hown ⟨b,off,none⟩ m c news hr.len (fun j u hu=>by rw[Addr.add_lit];exact hc j u hu) h1 (by unfold maxLen;omega) hbytes hbase
  unfold Oper.wp execOp
  simp only[ho,resolve,invoke,builtin,Sem.run_bind,Sem.run_pure,Result.andThen_ok,List.map_toArray,List.map_cons,List.map_nil,hs,hx,hrun];exact hK _ _ (h v' w' h2 h3 h5)
end Go.Proofs.YtkmcengmglgdeaaGreatDoor
