/- Joined texts: Sz, Part, To. -/
import Derived.Test.YtkmcengmglgdeaaGreatDoorSDeed
import Derived.Test.YtkmcengmglgdeaaGreatDoorSNum

namespace Go.Proofs.YtkmcengmglgdeaaGreatDoor
set_option linter.unusedVariables false
set_option linter.unusedSimpArgs false
set_option maxRecDepth 100000
set_option maxHeartbeats 8000000
open Go.ChangeShapes Go.WideShapes Go.ChangeAt Go.RowKit
def less (left:Int) (n:Nat):Int:=if(n:Int)≤left then left-n else -1
def Pj (d:aj):Nat:=d.need.length
def uD (ds:List aj):Nat:=ds.length+(ds.map Pj).sum
def NE (t:aB):Nat:=t.goal.length+uD t.ax
theorem iR {left:Int} {n:Nat} (h:(n:Int)≤left):less left n=left-n:=by unfold less;rw[if_pos h]
theorem iZ {left:Int} {n:Nat} (h:¬(n:Int)≤left):less left n= -1:=by unfold less;rw[if_neg h]
theorem o5 (A:Option Addr) (n c:Nat) (left:Int) (w:World) (hn:n≤9223372036854775807) (h0:0≤left) (h1:left≤1048576):
  Calls Tryz.prog 75 #[.slice A n c,.int .i64 left] w fun e w'=>e= .returned (.int .i64 (less left n))∧w=w':=by
 by_cases h:(n:Int)≤left
 ·rw[iR h];go_enter Tryz.func75,Tryz.ntmps75;go_wp2;go_ret;exact⟨rfl,rfl⟩
 ·rw[iZ h];go_enter Tryz.func75,Tryz.ntmps75;go_wp2;go_ret;exact⟨rfl,rfl⟩
theorem NH (A:Option Addr) (n c:Nat) (on off fl left:Int) (w:World) (hn:n≤9223372036854775807) (h0:0≤left) (h1:left≤1048576):
  Calls Tryz.prog 179 #[.agg #[.slice A n c,.int .i64 on,.int .i64 off,.int .i64 fl],.int .i64 left] w fun e w'=>e= .returned (.int .i64 (less left n))∧Below w.heap.size w w':=by
 by_cases h:(n:Int)≤left
 ·rw[iR h];go_enter Tryz.func179,Tryz.ntmps179
  go_wp2_with (go_at_call 75;refine(o5 A n c left _ hn h0 h1).mono ?_;rw[iR h];rintro e w' ⟨rfl,rfl⟩)
  go_ret;exact⟨rfl,(ai _ _).alloc (ay _) _⟩
 ·rw[iZ h];go_enter Tryz.func179,Tryz.ntmps179
  go_wp2_with (go_at_call 75;refine(o5 A n c left _ hn h0 h1).mono ?_;rw[iZ h];rintro e w' ⟨rfl,rfl⟩)
  go_ret;exact⟨rfl,(ai _ _).alloc (ay _) _⟩
theorem Uo (ds:List aj) (k:Nat) (d:aj) (hd:ds[k]? =some d):((ds.take (k+1)).map Pj).sum=((ds.take k).map Pj).sum+Pj d:=by
 obtain⟨hk,he⟩:=aW.1 hd;rw[List.take_succ_eq_append_getElem hk,he];simp
theorem KC (ds:List aj) (k:Nat):((ds.take k).map Pj).sum≤(ds.map Pj).sum:=by
 conv=>rhs;rw[←List.take_append_drop k ds]
 rw[List.map_append,List.sum_append];omega
theorem KD {M:Nat} (hM:M≤9223372036854775807) (A:Option Addr) (n c:Nat) (ds:List aj) (left:Int) (w:World) (h:jY M w w.heap.size A n c ds) (h0:0≤left) (h1:left≤1048576):
  Calls Tryz.prog 143 #[.slice A n c,.int .i64 left] w fun e w'=>e= .returned (.int .i64 (less left (uD ds)))∧Below w.heap.size w w':=by
 have hl:=h.len;have hs:=h.small;have hsz:uD ds=n+(ds.map Pj).sum:=by unfold uD;rw[hl]
 have HL:=af hl;have Il:=af hsz;clear hl hsz
 by_cases hn:(n:Int)≤left
 case neg=>
  have HV:Hid (less left (uD ds)= -1):=af (iZ (by rw[Il.out];omega));go_enter Tryz.func143,Tryz.ntmps143;go_wp2;go_ret;exact⟨aG HV.out.symm,ai _ _⟩
 go_enter Tryz.func143,Tryz.ntmps143;go_wp2
 go_loopw [5,1] (fun i l wr=>∃(k s:Nat),k≤n∧i= .int .i64 k∧l= .int .i64 (left-n-s)∧(s:Int)≤left-n∧Hid (((ds.take k).map Pj).sum=s)∧Below w.heap.size w wr) (fun i _ _=>n-(intOf i).toNat)
 case atStart=>exact⟨0,0,by omega,rfl,by simp,by omega,af rfl,ai _ _⟩
 case round=>
  obtain⟨k,s,hk,rfl,rfl,hsl,hsum,hbel⟩:=hrel
  by_cases hlt:k<n
  ·obtain⟨b,off,d,rfl,hb,hd,hda⟩:=h.get hlt;obtain⟨An,nn,cn,q0,q1,q2,q3,bW,hnn,-⟩:=(hda.keep hb (aC hbel));have hst:=Uo ds k d hd;rw[hsum.out] at hst;have hdn:Pj d=nn:=bW.len;rw[hdn] at hst;have HST:=af hst;clear hd hda hst hdn
   go_wp2_with fail
   refine(NH An nn cn _ _ _ _ _ (by omega) (by omega) (by omega)).mono ?_
   by_cases hnx:(nn:Int)≤left-n-s
   ·rw[iR hnx];rintro e w2 ⟨rfl,hb2⟩;have qH:=hbel.trans (hb2.mono hbel.size);go_wp2
    go_roundw
    case rel=>exact⟨k+1,s+nn,by omega,by go_num,by congr 1;omega,by omega,af HST.out,qH⟩
    case measure=>simp[intOf];omega
   ·rw[iZ hnx];rintro e w2 ⟨rfl,hb2⟩;have qH:=hbel.trans (hb2.mono hbel.size)
    have HV:Hid (less left (uD ds)= -1):=af (iZ (by
     rw[Il.out]
     have:=KC ds (k+1)
     rw[HST.out] at this
     omega))
    go_wp2;go_ret;exact⟨aG HV.out.symm,qH⟩
  ·have hkn:k=n:=by omega
   have hsm:=hsum.out;rw[hkn,←HL.out,List.take_length] at hsm;have HV:Hid (less left (uD ds)=left-n-s):=af (by rw[Il.out,hsm,iR (by omega)];omega);clear hsm hkn;go_wp2;go_ret;exact⟨aG HV.out.symm,hbel⟩
theorem Dh {M:Nat} (hM:M≤9223372036854775807) (v:Value) (t:aB) (left:Int) (w:World) (h:pU M w w.heap.size v t) (h0:0≤left) (h1:left≤1048576):
  Calls Tryz.prog 74 #[v,.int .i64 left] w fun e w'=>e= .returned (.int .i64 (less left (NE t)))∧Below w.heap.size w w':=by
 obtain⟨A,n,c,A',n',c',rfl,hg,hgs,hds,hst⟩:=h;have hb0:Below w.heap.size w (w.alloc (Obj.cells #[.int .i64 t.start,.slice A n c,.slice A' n' c'] 40)):=(ai _ _).alloc (ay _) _;have yM:=af (hds.up hb0);have hsz:NE t=n+uD t.ax:=by unfold NE;rw[hg.len]
 have Il:=af hsz;clear hsz
 by_cases hn:(n:Int)≤left
 ·go_enter Tryz.func74,Tryz.ntmps74
  go_wp2_with fail
  refine(o5 A n c left _ (by omega) h0 h1).mono ?_;rw[iR hn];rintro e w' ⟨rfl,rfl⟩
  go_wp2_with fail
  refine(KD hM A' n' c' t.ax _ _ yM.out (by omega) (by omega)).mono ?_
  by_cases h2:((uD t.ax:Nat):Int)≤left-n
  ·rw[iR h2];have HV:Hid (less left (NE t)=left-n-(uD t.ax:Nat)):=af (by rw[Il.out,iR (by omega)];omega)
   generalize uD t.ax=z at*
   rintro e w2 ⟨rfl,hb2⟩;go_wp2;go_ret;exact⟨aG HV.out.symm,hb0.trans (hb2.mono hb0.size)⟩
  ·rw[iZ h2];have HV:Hid (less left (NE t)= -1):=af (iZ (by rw[Il.out];omega));rintro e w2 ⟨rfl,hb2⟩;go_wp2;go_ret;exact⟨aG HV.out.symm,hb0.trans (hb2.mono hb0.size)⟩
 ·have HV:Hid (less left (NE t)= -1):=af (iZ (by rw[Il.out];omega));go_enter Tryz.func74,Tryz.ntmps74
  go_wp2_with fail
  refine(o5 A n c left _ (by omega) h0 h1).mono ?_;rw[iZ (show¬(n:Int)≤left by omega)];rintro e w' ⟨rfl,rfl⟩;go_wp2;go_ret;exact⟨aG HV.out.symm,hb0⟩
def wH (cells:List Value) (k:Nat) (nv:Value) (d:aj):List Value:=
 (((cells.set (k*4) nv).set (k*4+1) (.int .i64 d.on)).set (k*4+2) (.int .i64 d.off)).set (k*4+3) (.int .i64 d.flip)
theorem TN (cells:List Value) (k:Nat) (nv:Value) (d:aj):(wH cells k nv d).length=cells.length:=by simp[wH]
theorem rq (cells:List Value) (k:Nat) (nv:Value) (d:aj) (j:Nat) (h:j<k*4∨k*4+4≤j):(wH cells k nv d)[j]? =cells[j]? :=by
 unfold wH
 rw[List.getElem?_set_ne (by omega),List.getElem?_set_ne (by omega),List.getElem?_set_ne (by omega),List.getElem?_set_ne (by omega)]
theorem V9 (cells:List Value) (k:Nat) (nv:Value) (d:aj) (h:k*4+3<cells.length):
  (wH cells k nv d)[k*4]? =some nv∧(wH cells k nv d)[k*4+1]? =some (.int .i64 d.on)∧(wH cells k nv d)[k*4+2]? =some (.int .i64 d.off)∧(wH cells k nv d)[k*4+3]? =some (.int .i64 d.flip):=by
 unfold wH
 refine⟨?_,?_,?_,?_⟩
 ·rw[List.getElem?_set_ne (by omega),List.getElem?_set_ne (by omega),List.getElem?_set_ne (by omega),List.getElem?_set_self (by omega)]
 ·rw[List.getElem?_set_ne (by omega),List.getElem?_set_ne (by omega),List.getElem?_set_self (by simp;omega)]
 ·rw[List.getElem?_set_ne (by omega),List.getElem?_set_self (by simp;omega)]
 ·rw[List.getElem?_set_self (by simp;omega)]
theorem TM {w:World} {g:Nat} {t:TypeId} {cells:List Value} (h:iJ w g t cells.toArray) (k:Nat) (nv:Value) (d:aj):
  iJ ((((w.setCell ⟨g,k*4,none⟩ nv).setCell ⟨g,k*4+1,none⟩ (.int .i64 d.on)).setCell ⟨g,k*4+2,none⟩ (.int .i64 d.off)).setCell ⟨g,k*4+3,none⟩ (.int .i64 d.flip)) g t (wH cells k nv d).toArray:=by
 have:=(((h.nT (k*4) nv).nT (k*4+1) (.int .i64 d.on)).nT (k*4+2) (.int .i64 d.off)).nT (k*4+3) (.int .i64 d.flip)
 simpa[wH] using this
structure mg (w:World) (g:Nat) (ds:List aj) (k:Nat) (cells:List Value) (Fs:List (List Nat)):Prop where
 blk:iJ w g 144 cells.toArray
 MW:cells.length=ds.length*4
 qF:Fs.length=k
 deed:∀(i:Nat) d Fi,ds[i]? =some d→Fs[i]? =some Fi→TI w (g+1) cells i d Fi
 nodup:Fs.flatten.Nodup
theorem mg.lt {w:World} {g:Nat} {ds:List aj} {k:Nat} {cells:List Value} {Fs:List (List Nat)} (h:mg w g ds k cells Fs) (hk:k≤ds.length):∀b∈Fs.flatten,g+1≤b∧b<w.heap.size:=fun b hb=>by
 obtain⟨Fi,hF,hb⟩:=List.mem_flatten.1 hb;obtain⟨i,hi⟩:=List.mem_iff_getElem?.1 hF;have hl:i<ds.length:=by have:=(aW.1 hi).1;have:=h.qF;omega
 obtain⟨nv,_,_,_,_,h4,_⟩:=h.deed i _ _ (bD hl) hi;exact h4.lt b hb
theorem mg.keep {w w':World} {g:Nat} {ds:List aj} {k:Nat} {cells:List Value} {Fs:List (List Nat)} (h:mg w g ds k cells Fs) (hk:k≤ds.length) (hb:Below w.heap.size w w'):mg w' g ds k cells Fs:=
 ⟨h.blk.below hb h.blk.lt,h.MW,h.qF,fun i d Fi hd hF=>(h.deed i d Fi hd hF).keep fun b hx=>hb.block b (h.lt hk b (lV hF hx)).2,h.nodup⟩
theorem mg.next {w w2 w3:World} {g:Nat} {ds:List aj} {k:Nat} {cells:List Value} {Fs:List (List Nat)} (h:mg w g ds k cells Fs) (d:aj) (hd:ds[k]? =some d) (nv:Value) (F:List Nat)
  (hb:Below w.heap.size w w2) (ho:jP w2 w.heap.size nv d.need F) (hs:d.need.length≤1048576) (hwf:(Lit.int .i64 d.on).wf=true∧(Lit.int .i64 d.off).wf=true∧(Lit.int .i64 d.flip).wf=true)
  (hblk:iJ w3 g 144 (wH cells k nv d).toArray) (hon:∀b,b≠g→b<w2.heap.size→w3.heap[b]? =w2.heap[b]?):mg w3 g ds (k+1) (wH cells k nv d) (Fs++[F]):=by
 have hk:k<ds.length:=(aW.1 hd).1;have h2:=h.keep (by omega) hb;have hgl:=h.blk.lt
 have hkF:∀b∈Fs.flatten,w3.heap[b]? =w2.heap[b]? :=fun b hx=>by
  have:=h2.lt (by omega) b hx
  exact hon b (by omega) this.2
 refine⟨hblk,by rw[TN];exact h.MW,by simp[h.qF],fun i e Fi he hF=>?_,?_⟩
 ·rcases Nat.lt_or_ge i k with hi | hi
  ·rw[List.getElem?_append_left (by rw[h.qF];exact hi)] at hF;obtain⟨nv',q0,q1,q2,q3,q4,r⟩:=h2.deed i e Fi he hF;refine⟨nv',?_,?_,?_,?_,q4.keep fun b hx=>hkF b (lV hF hx),r⟩
   ·rw[rq _ _ _ _ _ (by omega)];exact q0
   ·rw[rq _ _ _ _ _ (by omega)];exact q1
   ·rw[rq _ _ _ _ _ (by omega)];exact q2
   ·rw[rq _ _ _ _ _ (by omega)];exact q3
  ·have hik:i=k:=by
    have:=(aW.1 hF).1
    simp[h.qF] at this
    omega
   subst hik
   have:=he.symm.trans hd
   injection this with this
   subst this;rw[List.getElem?_append_right (by rw[h.qF];exact ay _),h.qF,Nat.sub_self] at hF;simp only[List.getElem?_cons_zero,Option.some.injEq] at hF;subst hF;obtain⟨q0,q1,q2,q3⟩:=V9 cells i nv e (by rw[h.MW];omega);refine⟨nv,q0,q1,q2,q3,(ho.keep fun b hx=>hon b ?_ (ho.lt b hx).2).mono (by omega),hs,hwf⟩
   have:=(ho.lt b hx).1
   omega
 ·rw[List.flatten_append,List.nodup_append];refine⟨h.nodup,by simpa using ho.nodup,fun a ha b hb'=>?_⟩;have h1:=(h.lt (by omega) a ha).2;have h3:=(ho.lt b (by simpa using hb')).1
  omega
theorem mg.done {w:World} {g:Nat} {ds:List aj} {cells:List Value} {Fs:List (List Nat)} (h:mg w g ds ds.length cells Fs) (hs:ds.length≤1048576) {lo:Nat} (hlo:lo≤g):
  iH w lo (.slice (some ⟨g,0,none⟩) ds.length ds.length) ds (g::Fs.flatten) cells Fs∧(g::Fs.flatten).Nodup:=
 ⟨⟨⟨h.MW,.inr ⟨g,ds.length,cells.toArray,rfl,hlo,h.blk,ay _,by unfold maxLen;omega,by simpa using h.MW,by rw[dJ (by simpa using(Nat.le_of_eq h.MW))]⟩⟩,hs,h.qF,rfl,fun i d Fi hd hF=>by
  obtain⟨nv,q0,q1,q2,q3,q4,r⟩:=h.deed i d Fi hd hF
  exact⟨nv,q0,q1,q2,q3,q4.mono (by omega),r⟩⟩,List.nodup_cons.2 ⟨fun hx=>by have:=(h.lt (ay _) g hx).1;omega,h.nodup⟩⟩
theorem wG (A:Option Addr) (n c:Nat) (xs:List Int) (w:World) (h:iO .i64 w w.heap.size A n c xs) (hn:n≤1099511627776):
  Calls Tryz.prog 77 #[.slice A n c] w fun e w'=>(∃A' c' F,e= .returned (.slice A' n c')∧jP w' w.heap.size (.slice A' n c') xs F)∧Below w.heap.size w w':=
 (MR A n c xs w h hn).mono fun e w' ⟨he,ho,hb⟩=>⟨⟨_,_,_,he,⟨by have:=h.len;subst this;exact ho,h.wf,rfl⟩⟩,hb⟩
theorem Ht {w:World} {base g:Nat} {e:TypeId} {size n:Nat} {xs:List Value} (h:w.ownsRow base e size (.slice (some ⟨g,0,none⟩) n n) n xs):iJ w g e xs.toArray:=by
 rcases h.2 with⟨e,-⟩ | ⟨g',cap,cur,e,-,hh,-,-,hs,ht⟩
 ·cases e
 ·simp only[Value.slice.injEq,Option.some.injEq,Addr.mk.injEq] at e;obtain⟨⟨rfl,-⟩,-,rfl⟩:=e;rw[dJ (by simp[hs])] at ht;have hc:cur=xs.toArray:=by rw[←ht]
  rw[←hc];exact hh
theorem MS:tJ Tryz.prog 24 144 (.agg #[.slice none 0 0,.int .i64 0,.int .i64 0,.int .i64 0]) 4 48:=⟨Tryz.underlying24,info_parts (by kernel_rfl),rfl,by omega⟩
theorem MV (A:Option Addr) (n c:Nat) (d:aj) (w:World) (h:iO .i64 w w.heap.size A n c d.need) (hn:n≤1048576):
  Calls Tryz.prog 180 #[.agg #[.slice A n c,.int .i64 d.on,.int .i64 d.off,.int .i64 d.flip]] w fun e w'=>(∃nv F,e= .returned (.agg #[nv,.int .i64 d.on,.int .i64 d.off,.int .i64 d.flip])∧jP w' w.heap.size nv d.need F)∧Below w.heap.size w w':=by
 obtain⟨need,on,off,fl⟩:=d
 simp only at h ⊢
 have hb0:Below w.heap.size w (((w.alloc (Obj.cells #[.slice A n c,.int .i64 on,.int .i64 off,.int .i64 fl] 172)).alloc (Obj.cells #[.slice none 0 0,.int .i64 0,.int .i64 0,.int .i64 0] 144)).alloc (Obj.cells #[.slice none 0 0,.int .i64 0,.int .i64 0,.int .i64 0] 144)):=
  (((ai _ _).alloc (ay _) _).alloc (by simp) _).alloc (by simp;omega) _
 have HB0:=af hb0;clear hb0;go_enter Tryz.func180,Tryz.ntmps180
 go_wp2_with fail
 refine(wG A n c need _ (h.up HB0.out) (by omega)).mono ?_;rintro e w1 ⟨⟨A1,c1,F,rfl,ho⟩,hb1⟩;obtain⟨k0,k1,k2⟩:=aaN (hb1.mono (by simp));have hsz:=hb1.size;simp only[World.size_alloc] at hsz ho;have a1:w1.cell? ⟨w.heap.size,1,none⟩=some (.int .i64 on):=k0.cell 1;have a2:w1.cell? ⟨w.heap.size,2,none⟩=some (.int .i64 off):=k0.cell 2;have a3:w1.cell? ⟨w.heap.size,3,none⟩=some (.int .i64 fl):=k0.cell 3;have r0:w1.cell? ⟨w.heap.size+1,0,none⟩=some (.slice none 0 0):=k1.cell 0;have r1:w1.cell? ⟨w.heap.size+1,1,none⟩=some (.int .i64 0):=k1.cell 1;have r2:w1.cell? ⟨w.heap.size+1,2,none⟩=some (.int .i64 0):=k1.cell 2;have r3:w1.cell? ⟨w.heap.size+1,3,none⟩=some (.int .i64 0):=k1.cell 3;have o0:w1.cell? ⟨w.heap.size+2,0,none⟩=some (.slice none 0 0):=k2.cell 0;have o1:w1.cell? ⟨w.heap.size+2,1,none⟩=some (.int .i64 0):=k2.cell 1;have o2:w1.cell? ⟨w.heap.size+2,2,none⟩=some (.int .i64 0):=k2.cell 2;have o3:w1.cell? ⟨w.heap.size+2,3,none⟩=some (.int .i64 0):=k2.cell 3;have fr:∀i,w1.frozen? ⟨w.heap.size+1,i,none⟩=false:=k1.frozen;have fo:∀i,w1.frozen? ⟨w.heap.size+2,i,none⟩=false:=k2.frozen;have HB1:=af hb1;clear hb1 k0 k1 k2
 have key:∀wf,Only [w.heap.size+1,w.heap.size+2] w1 wf→(∃nv F,Ending.returned (.agg #[.slice A1 n c1,.int .i64 on,.int .i64 off,.int .i64 fl])= .returned (.agg #[nv,.int .i64 on,.int .i64 off,.int .i64 fl])∧jP wf w.heap.size nv need F)∧Below w.heap.size w wf:=fun wf hon=>
  ⟨⟨_,F,rfl,(ho.keep fun b hb=>hon.block b (ho.lt b hb).2 (by have:=(ho.lt b hb).1;simp;omega)).mono (by omega)⟩,(HB0.out.trans (HB1.out.mono (by simp;omega))).trans (hon.below (by simp) (by omega))⟩
 have KEY:=af key;clear key;go_wp2;refine bodyPost_ret (v:=.agg #[.slice A1 n c1,.int .i64 on,.int .i64 off,.int .i64 fl]) (by simp[results,Tryz.results180,go_sem,r0,r1,r2,r3]) rfl (KEY.out _ ?_)
 repeat' (first | with_reducible exact Only.refl _ _ | with_reducible refine Only.set ?_ ?_ _)
 all_goals simp
theorem JI (A:Option Addr) (n c:Nat) (ds:List aj) (w:World) (h:MQ w w.heap.size A n c ds):
  Calls Tryz.prog 144 #[.slice A n c] w fun e w'=>(∃v F cells Fs,e= .returned v∧iH w' w.heap.size v ds F cells Fs∧F.Nodup)∧Below w.heap.size w w':=by
 have hl:=h.len;have hsm:=h.small;obtain⟨i0,hi,hz0,hz1,hz2⟩:=MS.hi;have HL:=af hl;clear hl;go_enter Tryz.func144,Tryz.ntmps144
 go_wp2_with (at_make;refine wpList_make_full _ rfl _ _ 24 rfl w.heap.size 144 i0 _ 4 Tryz.underlying24 hi hz0 hz1 _ _ _ _ n rfl rfl rfl rfl (by rw[hz2];omega) (by unfold maxLen;omega) (ay _) ?_;intro w1 hown hgr)
 have hb1:Below w.heap.size w w1:=(ai _ _).grown hgr (ay _) (by simp);have hp:mg w1 w.heap.size ds 0 _ []:=⟨Ht hown,by rw[hown.1,HL.out],rfl,fun i d Fi _ hF=>by simp at hF,by simp⟩;have HB:=af hb1;clear hb1 hown hgr;go_wp2
 go_loopw [4] (fun i wr=>∃(k:Nat) (cells:List Value) (Fs:List (List Nat)),k≤n∧i= .int .i64 k∧mg wr w.heap.size ds k cells Fs∧Below w.heap.size w wr) (fun i _=>n-(intOf i).toNat)
 case atStart=>exact⟨0,_,_,by omega,rfl,hp,HB.out⟩
 case round=>
  obtain⟨k,cells,Fs,hk,rfl,hpt,hbel⟩:=hrel
  by_cases hlt:k<n
  ·obtain⟨b,off,d,rfl,hb,hd,hda⟩:=h.get hlt;obtain⟨An,nn,cn,q0,q1,q2,q3,bW,hnn,hw1,hw2,hw3⟩:=(hda.keep hb (aC hbel));have hnl:=bW.len;have HD:=af hd;have TL:=af hnl;clear hd hda hnl
   go_wp2_with fail
   refine(MV An nn cn d _ (bW.more hbel.size) hnn).mono ?_;rintro e w2 ⟨⟨nv,F,rfl,ho⟩,hb2⟩;have hblk2:=hpt.blk.below hb2 hpt.blk.lt;have hsz2:=hb2.size;have hgl:=hpt.blk.lt;have hcl:=hpt.MW;have OX:Hid (cells.length=n*4):=af (by rw[hcl,HL.out]);have cex:∀j,j<n*4→∃v,w2.cell? ⟨w.heap.size,j,none⟩=some v:=fun j hj=>⟨cells[j]'(by rw[OX.out];exact hj),by rw[hblk2.cell];simp⟩
   obtain⟨v0,c0⟩:=cex (k*4) (by omega);obtain⟨v1,c1⟩:=cex (k*4+1) (by omega);obtain⟨v2,c2⟩:=cex (k*4+2) (by omega);obtain⟨v3,c3⟩:=cex (k*4+3) (by omega);have fr:∀i,w2.frozen? ⟨w.heap.size,i,none⟩=false:=hblk2.frozen;obtain⟨A5,c5,hnv⟩:=dS ho.row;have L6:=af (TM hblk2 k nv d)
   have aaP:Hid (∀w3,iJ w3 w.heap.size 144 (wH cells k nv d).toArray→(∀b,b≠w.heap.size→b<w2.heap.size→w3.heap[b]? =w2.heap[b]?)→mg w3 w.heap.size ds (k+1) (wH cells k nv d) (Fs++[F])):=
    af fun w3 h1 h2=>hpt.next d HD.out nv F hb2 ho (by rw[TL.out];exact hnn) ⟨hw1,hw2,hw3⟩ h1 h2
   have V8:=af (hbel.trans (hb2.mono hbel.size));subst hnv;clear cex hcl hblk2 ho hb2 q0 q1 q2 q3 hpt;go_wp2
   go_roundw
   case rel=>
    refine⟨k+1,_,_,by omega,by go_num,aaP.out _ L6.out ?_,?_⟩
    ·intro b hne _;rw[Below.heap_setCell _ _ _ _ hne,Below.heap_setCell _ _ _ _ hne,Below.heap_setCell _ _ _ _ hne,Below.heap_setCell _ _ _ _ hne]
    ·exact(((V8.out.setCell (ay _) _).setCell (ay _) _).setCell (ay _) _).setCell (ay _) _
   case measure=>simp[intOf];omega
  ·have hkn:k=n:=by omega
   have HK:=af hkn;clear hkn
   have aaQ:Hid (∃F cells Fs,iH wr w.heap.size (.slice (some ⟨w.heap.size,0,none⟩) n n) ds F cells Fs∧F.Nodup):=af (by
    have h1:mg wr w.heap.size ds ds.length cells Fs:=by rw[HL.out,←HK.out];exact hpt
    have h2:=h1.done (by rw[HL.out];exact hsm) (ay _);rw[HL.out] at h2
    exact⟨_,_,_,h2.1,h2.2⟩)
   go_wp2;go_ret;obtain⟨F,cells,Fs,h1,h2⟩:=aaQ.out;exact⟨⟨_,F,cells,Fs,rfl,h1,h2⟩,hbel⟩
theorem MX (v:Value) (t:aB) (w:World) (h:nI w w.heap.size v t):
  Calls Tryz.prog 76 #[v] w fun e w'=>(∃v' F,e= .returned v'∧mY w' w.heap.size v' t F∧F.Nodup)∧Below w.heap.size w w':=by
 obtain⟨A,n,c,A',n',c',rfl,hg,hgs,hds,hst⟩:=h;have hnl:=hg.len
 have hb0:Below w.heap.size w (((w.alloc (Obj.cells #[.int .i64 t.start,.slice A n c,.slice A' n' c'] 40)).alloc (Obj.cells #[.int .i64 0,.slice none 0 0,.slice none 0 0] 26)).alloc (Obj.cells #[.int .i64 t.start,.slice none 0 0,.slice none 0 0] 26)):=
  (((ai _ _).alloc (ay _) _).alloc (by simp) _).alloc (by simp;omega) _
 have HB0:=af hb0;have TL:=af hnl;clear hb0 hnl;go_enter Tryz.func76,Tryz.ntmps76
 go_wp2_with fail
 refine(wG A n c t.goal _ (hg.up HB0.out) (by omega)).mono ?_;rintro e w1 ⟨⟨A1,c1,F1,rfl,ho1⟩,hb1⟩;obtain⟨k0,k1,k2⟩:=aaN (hb1.mono (by simp));have hsz:=hb1.size;simp only[World.size_alloc] at hsz ho1;have a2:w1.cell? ⟨w.heap.size,2,none⟩=some (.slice A' n' c'):=k0.cell 2;have o1:w1.cell? ⟨w.heap.size+2,1,none⟩=some (.slice none 0 0):=k2.cell 1;have fo:∀i,w1.frozen? ⟨w.heap.size+2,i,none⟩=false:=k2.frozen;have hbA:Below w.heap.size w w1:=HB0.out.trans (hb1.mono (by simp;omega));have hbS:Below w.heap.size w (w1.setCell ⟨w.heap.size+2,1,none⟩ (.slice A1 n c1)):=hbA.setCell (by simp) _;have aaR:=hds.up hbS;have HBA:=af hbA;have k0':=k0.far (p:=⟨w.heap.size+2,1,none⟩) (by simp) (.slice A1 n c1);have k1':=k1.far (p:=⟨w.heap.size+2,1,none⟩) (by simp) (.slice A1 n c1);have k2':=k2.nT 1 (.slice A1 n c1);have hoS:jP (w1.setCell ⟨w.heap.size+2,1,none⟩ (.slice A1 n c1)) (w.heap.size+1+1+1) (.slice A1 n c1) t.goal F1:=ho1.keep fun b hb=>Below.heap_setCell _ _ _ _ (by have:=(ho1.lt b hb).1;simp;omega)
 have adh:=af aaR;clear hb1 hbA aaR k0 k1 k2 ho1
 go_wp2_with fail
 refine(JI A' n' c' t.ax _ adh.out).mono ?_;rintro e w2 ⟨⟨v2,F2,cells,Fs,rfl,ho2,aaS⟩,hb2⟩;have hsz2:=hb2.size;have Qp:(w1.setCell ⟨w.heap.size+2,1,none⟩ (.slice A1 n c1)).heap.size=w1.heap.size:=by simp[World.setCell]
 rw[Qp] at hsz2;have l1:=k1'.below hb2 k1'.lt;have l2:=k2'.below hb2 k2'.lt;have r0:w2.cell? ⟨w.heap.size+1,0,none⟩=some (.int .i64 0):=l1.cell 0;have r1:w2.cell? ⟨w.heap.size+1,1,none⟩=some (.slice none 0 0):=l1.cell 1;have r2:w2.cell? ⟨w.heap.size+1,2,none⟩=some (.slice none 0 0):=l1.cell 2;have s0:w2.cell? ⟨w.heap.size+2,0,none⟩=some (.int .i64 t.start):=l2.cell 0;have s1:w2.cell? ⟨w.heap.size+2,1,none⟩=some (.slice A1 n c1):=l2.cell 1;have s2:w2.cell? ⟨w.heap.size+2,2,none⟩=some (.slice none 0 0):=l2.cell 2;have g1:∀i,w2.frozen? ⟨w.heap.size+1,i,none⟩=false:=l1.frozen;have g2:∀i,w2.frozen? ⟨w.heap.size+2,i,none⟩=false:=l2.frozen;obtain⟨A5,c5,hv2⟩:=dS ho2.row;have hoI:jP w2 (w.heap.size+1+1+1) (.slice A1 n c1) t.goal F1:=hoS.below hb2;have hlt1:=hoS.lt;have hlt2:=ho2.lt;rw[Qp] at hlt2
 have key:∀wf,Only [w.heap.size+1,w.heap.size+2] w2 wf→(∃v' F,Ending.returned (.agg #[.int .i64 t.start,.slice A1 n c1,v2])= .returned v'∧mY wf w.heap.size v' t F∧F.Nodup)∧Below w.heap.size w wf:=fun wf hon=>by
  refine⟨⟨_,F1++F2,rfl,⟨_,_,F1,F2,cells,Fs,rfl,(hoI.keep fun b hb=>hon.block b (hoI.lt b hb).2 (by have:=(hoI.lt b hb).1;simp;omega)).mono (by omega),by rw[TL.out];exact hgs,(ho2.keep fun b hb=>hon.block b (ho2.lt b hb).2 (by have:=(hlt2 b hb).1;simp;omega)).mono (by rw[Qp];omega),rfl,hst⟩,?_⟩,?_⟩
  ·rw[List.nodup_append];refine⟨hoI.nodup,aaS,fun a ha b hb=>?_⟩;have h1:=(hlt1 a ha).2;have h2:=(hlt2 b hb).1;rw[Qp] at h1
   omega
  ·exact((HBA.out.setCell (by simp) _).trans (hb2.mono (by rw[Qp];omega))).trans (hon.below (by simp) (by omega))
 have KEY:=af key;subst hv2;clear key hb2 hoS hbS hoI ho2 hlt1 hlt2 Qp l1 l2 k0' k1' k2' aaS;go_wp2;refine bodyPost_ret (v:=.agg #[.int .i64 t.start,.slice A1 n c1,.slice A5 t.ax.length c5]) (by simp[results,Tryz.results76,go_sem,r0,r1,r2]) rfl (KEY.out _ ?_)
 repeat' (first | with_reducible exact Only.refl _ _ | with_reducible refine Only.set ?_ ?_ _)
 all_goals simp
end Go.Proofs.YtkmcengmglgdeaaGreatDoor
