/- Joined texts: Back, More, Steps. -/
import Derived.Test.YtkmcengmglgdeaaGreatDoorSPerm
import Derived.Test.YtkmcengmglgdeaaGreatDoorSCopy
import Derived.Deep.WholeRow
import Derived.Test.YtkmcengmglgdeaaGreatDoorSPush

namespace Go.Proofs.YtkmcengmglgdeaaGreatDoor
set_option linter.unusedVariables false
set_option linter.unusedSimpArgs false
set_option maxRecDepth 100000
set_option maxHeartbeats 8000000
open Go.ChangeShapes Go.WideShapes Go.ChangeAt Go.RowKit
def gq (M:Nat):Nat→Bool:=fun s=>bit M s == 1
theorem IZ {P:Program} {w:World} {b o:Nat} {t e:TypeId} {n:Nat} {xs:List Value} (hu:P.underlying t=some (.array n e)) (hi:(P.info? t).map (·.size)=some xs.length) (h:∀j v,xs[j]? =some v→w.cell? ⟨b,o+j,none⟩=some v):
  (loadVar t ⟨b,o,none⟩).run P w= .ok (.agg xs.toArray) w:=by
 have hl:(loadCells ⟨b,o,none⟩ xs.length).run P w= .ok xs.toArray w:=run_loadCells_list (P:=P) w ⟨b,o,none⟩ xs fun j v hv=>by
  have hadd:(⟨b,o,none⟩:Addr).add j=⟨b,o+j,none⟩:=by unfold Addr.add;split<;>simp_all
  rw[hadd];exact h j v hv
 cases hq:P.info? t with
 |none=>simp[hq] at hi
 |some i=>
  have hs:i.size=xs.length:=by simpa[hq] using hi
  have hagg:(isAgg t).run P w= .ok true w:=by
   unfold isAgg
   rw[Sem.run_bind,run_underlying hu w]
   simp
  simp[loadVar,Sem.run_bind,hagg,sizeOf,typeInfo,hq,hs,hl]
theorem iC {P:Program} {w:World} {ops:Array Oper} {rest:List Oper} {o:Oper} {a:Act} {Q:Exit→Act→World→Prop} (t:TypeId) (x:Operand) (hop:o.op=Op.load t x) (hg:o.guard=none)
  (e:TypeId) (n:Nat) (hu:P.underlying t=some (.array n e)) (b off:Nat) (xs:List Value) (hx:a.eval x= .pointer (some ⟨b,off,none⟩)) (hi:(P.info? t).map (·.size)=some xs.length)
  (h:∀j v,xs[j]? =some v→w.cell? ⟨b,off+j,none⟩=some v) (hK:wpList P ops Q rest (a.put o.dst (.agg xs.toArray)) w):wpList P ops Q (o::rest) a w:=by
 refine wpList_plain hg fun K hK'=>?_
 unfold Oper.wp execOp
 simp only[hop,hx,Instr.loadAt,Instr.sureAddr,Sem.run_bind,Sem.run_pure,Result.andThen_ok,IZ hu hi h];exact hK' _ _ hK
theorem jO {P:Program} {w:World} {ops:Array Oper} {rest:List Oper} {o:Oper} {a:Act} {Q:Exit→Act→World→Prop} (t:TypeId) (x y:Operand) (hop:o.op=Op.store t x y) (hg:o.guard=none)
  (old:Array Value) (xs:List Value) (hx:a.eval x= .pointer (some ⟨w.heap.size,0,none⟩)) (hy:a.eval y= .agg xs.toArray) (hi:(P.info? t).map (·.size)=some xs.length) (ho:old.size=xs.length) (h1:∀v∈xs,v.oneCell'=true)
  (hK:wpList P ops Q rest (a.put o.dst undef) (w.alloc (.cells xs.toArray t))):wpList P ops Q (o::rest) a (w.alloc (.cells old t)):=by
 refine wpList_plain hg fun K hK'=>?_
 unfold Oper.wp execOp
 simp only[hop,hx,hy,Instr.storeAt,Instr.sureAddr,Sem.run_bind,Sem.run_pure,Result.andThen_ok,run_storeVar_new w t old xs.toArray (by simpa using hi) (by simpa using ho) (Array.all_eq_true_iff_forall_mem.2 fun v hv=>h1 v (by simpa using hv))];exact hK' _ _ hK
theorem qR {P:Program} {w:World} {t e:TypeId} {n k:Nat} {xs:List Value} {v:Value} (hu:P.underlying t=some (.array n e)) (h:xs[k]? =some v) (hn:xs.length=n) (he:(P.info? e).map (·.size)=some 1) (ha:P.underlying e=some (.int .i64)):
  (Instr.index t (.agg xs.toArray) (.int .i64 (k:Int))).run P w= .ok v w:=by
 have hk:=(bI.1 h).1
 cases hq:P.info? e with
 |none=>simp[hq] at he
 |some i=>
  have hs:i.size=1:=by simpa[hq] using he
  have hagg:(isAgg e).run P w= .ok false w:=by
   unfold isAgg
   rw[Sem.run_bind,run_underlying ha w]
   simp
  simp[Instr.index,asIntOf,run_underlying hu,Sem.run_bind,sizeOf,typeInfo,hq,hs,part,hagg,show k<n by omega,h]
theorem I4:(Tryz.prog.info? 3).map (·.size)=some 1:=by kernel_rfl
theorem kX:(Tryz.prog.info? 108).map (·.size)=some 32:=by kernel_rfl
theorem qh:Tryz.prog.underlying 108=some (.array 32 3):=by kernel_rfl
def rowOf (d:au):List Value:=(List.range 32).map fun s=>.int .i64 (opt (bD d s))
theorem uS (d:au) (s:Nat) (h:s<32):(rowOf d)[s]? =some (.int .i64 (opt (bD d s))):=by simp[rowOf,h]
theorem gJ (d:au):(rowOf d).length=32:=by simp[rowOf]
theorem CS {w:World} {B n c:Nat} {A:Option Addr} {ds:List au} (h:bJ w B 32 A n c (ints (yI ds))) (hn:ds.length=n) {k:Nat} (hk:k<n):
  ∃b off d,A=some ⟨b,off,none⟩∧b<B∧ds[k]? =some d∧∀j v,(rowOf d)[j]? =some v→w.cell? ⟨b,off+k*32+j,none⟩=some v:=by
 obtain⟨b,off,e,hb,hc⟩:=h.at_ (by omega);refine⟨b,off,ds[k]'(by omega),e,hb,bH _,fun j v hv=>?_⟩;have hj:j<32:=by have:=(bI.1 hv).1;rwa[gJ] at this
 rw[uS _ j hj] at hv;rw[Nat.add_assoc];refine hc (k*32+j) v ?_
 unfold ints
 rw[List.getElem?_map,Qi ds k j _ (bH _) hj];exact hv
def BQ (d:au) (S:Nat) (s:Nat):Bool:=(bD d s).any (gq S)
def qJ (ds:List au) (d:au) (S m:Nat) (s:Nat):Bool:=eu ds (gq S) s||upto (BQ d S) m s
theorem Ox (ds:List au) (d:au) (S:Nat):aQ (qJ ds d S 0) 32=aQ (eu ds (gq S)) 32:=cO fun k _=>by simp[qJ,upto]
theorem RP (ds:List au) (d:au) (S k:Nat) (h:ds[k]? =some d):aQ (qJ (ds.take k) d S 32) 32=aQ (eu (ds.take (k+1)) (gq S)) 32:=cO fun s hs=>by
 rw[take_succ' h]
 simp[qJ,upto,hs,eu,BQ]
theorem LJ (ds:List au) (d:au) (S m:Nat) (h:BQ d S m=false):aQ (qJ ds d S (m+1)) 32=aQ (qJ ds d S m) 32:=cO fun s hs=>by
 unfold qJ upto
 by_cases e:s=m
 ·subst e;simp[h]
 ·simp[show(s<m+1)↔(s<m) by omega]
theorem RQ (ds:List au) (d:au) (S m:Nat) (h:BQ d S m=true):∀j,j<32→qJ ds d S (m+1) j=(qJ ds d S m j||decide (m=j)):=fun j hj=>by
 unfold qJ
 rw[GX _ _ h j hj,Bool.or_assoc]
theorem GU (d:au) (S s:Nat) (h:bD d s=none):BQ d S s=false:=by unfold BQ;rw[h];rfl
theorem vW (d:au) (S s q:Nat) (h:bD d s=some q):BQ d S s=(bit S q == 1):=by unfold BQ;rw[h];rfl
theorem DZ (A:Option Addr) (n c:Nat) (ds:List au) (S:Nat) (w:World) (h:bJ w w.heap.size 32 A n c (ints (yI ds))) (hn:ds.length=n) (hd:∀d∈ds,bK d=true) (pz:n≤6) (hS:S<4294967296):
  Calls Tryz.prog 148 #[.slice A n c,.int .i64 S] w fun e w'=>e= .returned (.int .i64 (aQ (eu ds (gq S)) 32:Nat))∧Below w.heap.size w w':=by
 have HR:=af h;have HL:=af hn;have gQ:=af hd;clear h hn hd;go_enter Tryz.func148,Tryz.ntmps148;go_wp2
 go_loopw [12,5] (fun i sv wr=>∃k M:Nat,k≤n∧i= .int .i64 k∧sv= .int .i64 M∧Hid (M=aQ (eu (ds.take k) (gq S)) 32)∧Below w.heap.size w wr) (fun i _ _=>n-(intOf i).toNat)
 case atStart=>exact⟨0,0,by omega,rfl,rfl,af (kV.2 fun _ _=>rfl).symm,ai _ _⟩
 case round=>
  obtain⟨k,M,hk,rfl,rfl,HM,hbel⟩:=hrel;have HB:=af hbel;clear hbel
  by_cases hlt:k<n
  ·obtain⟨b,off,d,rfl,hb,hdk,hrow⟩:=CS HR.out HL.out hlt;have P5:Hid (∀j v,(rowOf d)[j]? =some v→wr.cell? ⟨b,off+k*32+j,none⟩=some v):=af fun j v hv=>(aF HB.out b _ hb).trans (hrow j v hv)
   have HDK:=af hdk;clear hrow hdk
   go_wp2_with (first
    | (refine iC 108 (.tmp 14) rfl rfl 3 32 qh b (off+k*32) (rowOf d) rfl (by rw[gJ];exact kX) P5.out ?_)
    | (refine jO 108 (.tmp 7) (.tmp 15) rfl rfl _ (rowOf d) rfl rfl (by rw[gJ];exact kX) (by rw[gJ];rfl) (by simp[rowOf,Value.oneCell']) ?_)
    | (refine iC 108 (.tmp 7) rfl rfl 3 32 qh wr.heap.size 0 (rowOf d) rfl (by rw[gJ];exact kX) (by simp) ?_))
   have CQ:Hid (M=aQ (qJ (ds.take k) d S 0) 32):=af (HM.out.trans (Ox _ _ _).symm);have NE:=af (gQ.out d (bT HDK.out));have HB1:Hid (Below w.heap.size w (wr.alloc (.cells (rowOf d).toArray 108))):=af (HB.out.alloc HB.out.size _);have Bh:=af (uS d);have HLEN:=af (gJ d)
   generalize rowOf d=R at Bh HLEN HB1 ⊢
   clear P5 HM
   go_loopw [17,5] (fun i sv wr=>∃m M:Nat,m≤32∧i= .int .i64 m∧sv= .int .i64 M∧Hid (M=aQ (qJ (ds.take k) d S m) 32)∧Below w.heap.size w wr) (fun i _ _=>32-(intOf i).toNat)
   case atStart=>exact⟨0,M,by omega,rfl,rfl,CQ,HB1.out⟩
   case round=>
    clear CQ HB1 HB;obtain⟨m,M1,xH,rfl,rfl,HM,hbel⟩:=hrel;have HB:=af hbel;clear hbel
    by_cases hm:m<32
    ·obtain⟨o,ho⟩:∃o,bD d m=o:=⟨_,rfl⟩;have hix:=Bh.out m hm;rw[ho] at hix;have Qj:=fun w=>qR (P:=Tryz.prog) (w:=w) (xs:=R) (k:=m) (v:=.int .i64 (opt o)) qh hix HLEN.out I4 Tryz.underlying3
     have HO:=af ho;clear ho
     cases o with
     |none=>
      have iO:Hid (M1=aQ (qJ (ds.take k) d S (m+1)) 32):=af (HM.out.trans (LJ _ d S m (GU d S m HO.out)).symm);simp only[opt] at Qj;go_wp2
      go_roundw
      case rel=>exact⟨m+1,M1,by omega,by go_num,rfl,iO,HB.out⟩
      case measure=>simp[intOf];omega
     |some q=>
      have hq:=iy d m q NE.out hm HO.out;have hbit:=and_one S q (by omega);simp only[opt] at Qj
      by_cases hs1:bit S q=1
      ·rw[hs1] at hbit;have hpw:=iK m (by omega);have hor:=zS hm HM.out (RQ (ds.take k) d S m (by rw[vW d S m q HO.out,hs1];rfl));clear hs1;go_wp2
       go_roundw
       case rel=>exact⟨m+1,_,by omega,by go_num,rfl,af rfl,HB.out⟩
       case measure=>simp[intOf];omega
      ·have hs0:bit S q=0:=by have:=jo S q;omega
       rw[hs0] at hbit;have iO:Hid (M1=aQ (qJ (ds.take k) d S (m+1)) 32):=af (HM.out.trans (LJ _ d S m (by rw[vW d S m q HO.out,hs0];rfl)).symm);clear hs1 hs0;go_wp2
       go_roundw
       case rel=>exact⟨m+1,M1,by omega,by go_num,rfl,iO,HB.out⟩
       case measure=>simp[intOf];omega
    ·have iO:Hid (M1=aQ (eu (ds.take (k+1)) (gq S)) 32):=af (by rw[HM.out,show m=32 by omega];exact RP ds d S k HDK.out);go_wp2
     go_roundw
     case rel=>exact⟨k+1,M1,by omega,by go_num,rfl,iO,HB.out⟩
     case measure=>simp[intOf];omega
  ·have HF:Hid (M=aQ (eu ds (gq S)) 32):=af (by
    rw[HM.out,gW (by rw[HL.out];omega)])
   go_wp2;go_ret;exact⟨aP (by rw[HF.out]),HB.out⟩
structure Bx (p:Prop):Prop where
 out:p
theorem St.rY {w W W':World} {L:List dh} (h:St w W L) (i:Nat) {v v':Value} {xs ys:List Int} {n:Nat} (hi:L[i]? =some (ax v xs)) (hn:n=xs.length+ys.length) (hown:W'.ownsRow 0 3 1 v' n (Go.Proofs.YtkmcengmglgdeaaGreatDoor.ints xs++Go.Proofs.YtkmcengmglgdeaaGreatDoor.ints ys)) (hwf:∀y∈ys,(Lit.int .i64 y).wf=true)
  (hg:W.grownBy W' v.ownBlock) (hat:v'.ownBlock=v.ownBlock∨v'.ownBlock=some W.heap.size):St w W' (L.set i (ax v' (xs++ys))):=
 h.mod i hi fun F h1 _=>⟨v'.ownBlock.toList,⟨by subst hn;rw[bQ,oJ];exact hown,fun x hx=>(List.mem_append.1 hx).elim (h1.wf x) (hwf x),rfl⟩,fun b hb=>by
  rcases hat with e | e
  ·left;rw[h1.foot,←e];exact hb
  ·right;rw[e] at hb;simp at hb;omega,by rw[h1.foot];exact Only.lJ hg⟩
theorem St.qA {w W:World} {L:List dh} (h:St w W L) (i:Nat) {v:Value} {xs:List Int} (hi:L[i]? =some (ax v xs)):W.ownsRow 0 3 1 v xs.length (Go.Proofs.YtkmcengmglgdeaaGreatDoor.ints xs):=by
 obtain⟨F,h1⟩:=h.ints i hi;exact qY h1.row (Nat.zero_le _)
theorem LH {w W:World} {R:dh} {L:List dh} {M:Nat→Option dh} (h:Sn w W M) (h0:M 0=some R) (h2:∀i,M (i+2)=L[i]?):St w W (R::L):=
 h.eG (0::List.range' 2 L.length) (by
  rw[List.nodup_cons]
  exact⟨fun hm=>by have:=List.mem_range'_1.1 hm;omega,List.nodup_range'⟩) (by
  simp only[List.map_cons,h0,List.cons.injEq,true_and];refine List.ext_getElem (by simp) fun i h1 h3=>?_
  simp only[List.length_map,List.length_range'] at h1;simp only[List.getElem_map,List.getElem_range',Nat.one_mul]
  rw[Nat.add_comm,h2 i,bH h1])
theorem St.abE {w W W':World} {L:List dh} {v v' nv:Value} {ds:List au} {d:au} {n:Nat} (h:St w W (fD v ds::ax nv d.need::L))
  (hs:d.need.length≤1048576) (hwf:(Lit.int .i64 d.on).wf=true∧(Lit.int .i64 d.off).wf=true∧(Lit.int .i64 d.flip).wf=true) (hsm:ds.length+1≤1048576) (hn:n=ds.length+1)
  {cells:List Value} (hrow:W.ownsRow 0 144 4 v ds.length cells) (hown:W'.ownsRow 0 144 4 v' n (cells++[nv,.int .i64 d.on,.int .i64 d.off,.int .i64 d.flip])) (hg:W.grownBy W' v.ownBlock) (hat:v'.ownBlock=v.ownBlock∨v'.ownBlock=some W.heap.size):St w W' (fD v' (ds++[d])::L):=
 LH ((Sn.dN h).push 0 1 (by decide) rfl rfl hs hwf hsm hn hrow hown hg hat) rfl fun i=>rfl
theorem St.adH {w W:World} {L:List dh} (h:St w W L) (i:Nat) {v:Value} {ds:List au} (hi:L[i]? =some (fD v ds)):∃cells,W.ownsRow 0 144 4 v ds.length cells:=by
 obtain⟨F,h1,-⟩:=h.get i hi;exact jG.ownRow h1
def qC (y z:Nat→Int) (k:Nat):List Int:=(List.range 32).map fun i=>if i<k then y i else z i
theorem oN (y z:Nat→Int) (k:Nat):(qC y z k).length=32:=by simp[qC]
theorem Xc (y z:Nat→Int) (k j:Nat) (h:j<32):(qC y z k)[j]? =some (if j<k then y j else z j):=by simp[qC,h]
theorem zQ (y z:Nat→Int) (k:Nat) (h:k<32):(qC y z k)[k]? =some (z k):=by rw[Xc y z k k h,if_neg (by omega)]
theorem yG (y z:Nat→Int) (k:Nat) (x:Int) (hx:x=y k):(qC y z k).set k x=qC y z (k+1):=by
 subst hx
 apply List.ext_getElem?
 intro i;rw[List.getElem?_set]
 unfold qC
 simp only[List.getElem?_map,List.length_map,List.length_range]
 by_cases e:k=i
 ·subst e;rw[if_pos rfl]
  by_cases h:k<32
  ·rw[if_pos h,List.getElem?_range h];simp
  ·rw[if_neg h,List.getElem?_eq_none (by simp;omega)];rfl
 ·rw[if_neg e]
  by_cases h:i<32
  ·rw[List.getElem?_range h];simp[show(i<k+1)↔(i<k) by omega]
  ·rw[List.getElem?_eq_none (by simp;omega)];rfl
theorem GR (y z:Nat→Int) (k:Nat) (h:y k=z k):qC y z (k+1)=qC y z k:=by
 unfold qC
 refine List.map_congr_left fun i _=>?_
 by_cases e:i=k
 ·subst e;simp[h]
 ·simp[show(i<k+1)↔(i<k) by omega]
theorem vU (y z:Nat→Int):qC y z 0=(List.range 32).map z:=by unfold qC;simp
theorem DW (y z:Nat→Int):qC y z 32=(List.range 32).map y:=by
 unfold qC
 refine List.map_congr_left fun i hi=>?_
 simp[List.mem_range.1 hi]
def fJ (ds:List au) (p:Nat→Bool):List Int:=(List.range 32).map (jc ds p)
theorem jD (ds:List au) (p:Nat→Bool):(fJ ds p).length=32:=by simp[fJ]
theorem mD (ds:List au) (p:Nat→Bool) (s:Nat) (h:s<32):(fJ ds p)[s]? =some (jc ds p s):=by simp[fJ,h]
theorem GV (p:Nat→Bool):∀s,s<32→gq (aQ p 32) s=p s:=fun s hs=>jw p hs
theorem LD {ds:List au} (hd:∀d∈ds,bK d=true) (p:Nat→Bool):aQ (eu ds (gq (aQ p 32))) 32=aQ (eu ds p) 32:=cO fun s hs=>uQ hd hs (GV p)
def iD (ds:List au) (p:Nat→Bool) (m:Nat):Nat→Bool:=fun s=>eu ds (layer ds p m) s&& !layer ds p m s
theorem RJ {ds:List au} {p:Nat→Bool} {m M B:Nat} (hM:M=aQ (layer ds p m) 32) (hB:B=aQ (eu ds (layer ds p m)) 32):bits .andNot .i64 (B:Int) (M:Int)=((aQ (iD ds p m) 32:Nat):Int):=by
 have h1:=dI (layer ds p m);have h2:=dI (eu ds (layer ds p m));rw[uI _ _ (by omega) (by omega),hM,hB,Rw]
 rfl
theorem Ou {ds:List au} {p:Nat→Bool} {m:Nat} (h:aQ (iD ds p m) 32=0):kD ds p m:=fun s hs hb=>by
 have:=kV.1 h s hs
 unfold iD at this
 rw[hb] at this
 simpa using this
theorem Ov {ds:List au} {p:Nat→Bool} {m:Nat} (h:aQ (iD ds p m) 32≠0):¬kD ds p m:=fun hf=>h (kV.2 fun s hs=>by
 unfold iD
 cases hb:eu ds (layer ds p m) s with
 |false=>rfl
 |true=>rw[hf s hs hb];rfl)
theorem UL {ds:List au} {p:Nat→Bool} {m M F:Nat} (hM:M=aQ (layer ds p m) 32) (hF:F=aQ (iD ds p m) 32):bits .or .i64 (M:Int) (F:Int)=((aQ (layer ds p (m+1)) 32:Nat):Int):=by
 have h1:=dI (layer ds p m);have h2:=dI (iD ds p m)
 have key:aQ (fun s=>layer ds p m s||iD ds p m s) 32=aQ (layer ds p (m+1)) 32:=cO fun s hs=>by
  show(layer ds p m s||(eu ds (layer ds p m) s&& !layer ds p m s))=(layer ds p m s||eu ds (layer ds p m) s)
  generalize layer ds p m s=a
  generalize eu ds (layer ds p m) s=b
  cases a<;>cases b<;>rfl
 rw[nT _ _ (by omega) (by omega),hM,hF,CO,key]
theorem GN {ds:List au} {p:Nat→Bool} {m s F:Nat} (hs:s<32) (hF:F=aQ (iD ds p m) 32) (h:bit F s=1):((m:Int)+1)=gI ds p (m+1) s:=by
 have:iD ds p m s=true:=by rw[←jw (iD ds p m) hs,←hF,h];rfl
 unfold iD at this
 simp only[Bool.and_eq_true,Bool.not_eq_true'] at this
 simp[gI,this.1,this.2]
theorem Ls {ds:List au} {p:Nat→Bool} {m s F:Nat} (hs:s<32) (hF:F=aQ (iD ds p m) 32) (h:bit F s=0):gI ds p (m+1) s=gI ds p m s:=by
 have:iD ds p m s=false:=by rw[←jw (iD ds p m) hs,←hF,h];rfl
 unfold iD at this
 cases hl:layer ds p m s with
 |true=>simp[gI,hl]
 |false=>
  rw[hl] at this;have hb:eu ds (layer ds p m) s=false:=by simpa using this
  rw[rD hl]
  simp[gI,hl,hb]
theorem LC {ds:List au} {p:Nat→Bool} {m:Nat} (h:aQ (iD ds p m) 32≠0) (hc:m≤cnt (layer ds p m) 32):m+1≤cnt (layer ds p (m+1)) 32:=by
 have:=LG (Ov h);omega
theorem DU {ds:List au} {p:Nat→Bool} {m:Nat} (hd:∀d∈ds,bK d=true) (h:aQ (iD ds p m) 32=0):(List.range 32).map (gI ds p m)=fJ ds p:=by
 unfold fJ
 refine List.map_congr_left fun s hs=>?_
 exact(DV hd (Ou h) (List.mem_range.1 hs)).symm
theorem RN {ds:List au} {p:Nat→Bool} {s:Nat} (hs:s<32) (h:bit (aQ p 32) s=1):(0:Int)=gI ds p 0 s:=by
 have:p s=true:=by rw[←jw p hs,h];rfl
 simp[gI,this]
theorem UM {ds:List au} {p:Nat→Bool} {s:Nat} (hs:s<32) (h:bit (aQ p 32) s=0):(-1:Int)=gI ds p 0 s:=by
 have:p s=false:=by rw[←jw p hs,h];rfl
 simp[gI,this]
theorem FD (A:Option Addr) (n c:Nat) (ds:List au) (p:Nat→Bool) (S:Nat) (w:World) (h:bJ w w.heap.size 32 A n c (ints (yI ds))) (hn:ds.length=n) (hd:∀d∈ds,bK d=true) (pz:n≤6) (hS:S=aQ p 32):
  Calls Tryz.prog 87 #[.slice A n c,.int .i64 S] w (Gives w id fun v=>[ax v (fJ ds p)]):=by
 have HR:=af h;have HL:=af hn;have gQ:=af hd;have HSV:=Bx.mk hS;have adF:S<4294967296:=by rw[hS];exact dI p
 obtain⟨i0,hi,hz0,hz1,hz2⟩:=iR.hi;obtain⟨g,hg⟩:∃g,w.heap.size=g:=⟨_,rfl⟩;have HG:=af hg;clear h hn hd hS;go_enter Tryz.func87,Tryz.ntmps87
 go_wp2_with (at_make;refine wpList_make_full _ rfl _ _ 23 rfl w.heap.size 3 i0 _ 1 Tryz.underlying23 hi hz0 hz1 _ _ _ _ 32 rfl rfl rfl rfl (by rw[hz2];omega) (by unfold maxLen;omega) (aA _) ?_;intro w2 hown hgr)
 have S2:St w w2 [ax (.slice (some ⟨g,0,none⟩) 32 32) (qC (gI ds p 0) (fun _=>0) 0)]:=by
  refine St.CG (F:=[g]) ⟨?_,?_,?_⟩ ((ai _ _).grown hgr (aA _) (by simp))
  ·have e:(madeCells (Value.int IntKind.i64 0).cells (32*1)).toList=ints (qC (gI ds p 0) (fun _=>0) 0):=by
    show(madeCells #[Value.int IntKind.i64 0] 32).toList=_
    rw[toList_madeCells_one,vU]
    rfl
   rw[oN,←hg];rw[e] at hown;exact hown
  ·rw[vU];intro x hx;obtain⟨_,_,rfl⟩:=List.mem_map.1 hx
   rfl
  ·rfl
 have HS2:=af S2
 try rw[hg]
 clear hown hgr S2 hg;go_wp2
 go_loopw [13] (fun i wr=>∃k:Nat,k≤32∧i= .int .i64 k∧St w wr [ax (.slice (some ⟨g,0,none⟩) 32 32) (qC (gI ds p 0) (fun _=>0) k)]) (fun i _=>32-(intOf i).toNat)
 case atStart=>exact⟨0,by omega,rfl,HS2.out⟩
 case round=>
  obtain⟨k,hk,rfl,M⟩:=hrel;have HM:=af M;clear M HS2
  by_cases hlt:k<32
  ·obtain⟨hc,hf⟩:=HM.out.oK 0 rfl (oN _ _ _) k 0 (zQ _ _ k hlt);have hbit:=and_one S k (by omega)
   by_cases hb1:bit S k=1
   ·have HST:=af (HM.out.IY 0 rfl (oN _ _ _) k 0 rfl);have HE:Hid ((0:Int)=gI ds p 0 k):=af (RN hlt (by rw[←HSV.out];exact hb1));rw[hb1] at hbit;clear hb1;go_wp2
    go_roundw
    case rel=>exact⟨k+1,by omega,by go_num,by rw[←yG _ _ k 0 HE.out];exact HST.out⟩
    case measure=>simp[intOf];omega
   ·have hb0:bit S k=0:=by have:=jo S k;omega
    have HST:=af (HM.out.IY 0 rfl (oN _ _ _) k (-1) rfl);have HE:Hid ((-1:Int)=gI ds p 0 k):=af (UM hlt (by rw[←HSV.out];exact hb0));rw[hb0] at hbit;clear hb1 hb0;go_wp2
    go_roundw
    case rel=>exact⟨k+1,by omega,by go_num,by rw[←yG _ _ k (-1) HE.out];exact HST.out⟩
    case measure=>simp[intOf];omega
  ·have cu:Hid (St w wr [ax (.slice (some ⟨g,0,none⟩) 32 32) ((List.range 32).map (gI ds p 0))]):=af (by
    have:=HM.out
    rw[show k=32 by omega,DW] at this
    exact this)
   clear HM;go_wp2
   go_loopw [7,1] (fun mv sv wr=>∃m M:Nat,mv= .int .i64 ((m:Int)+1)∧sv= .int .i64 M∧m≤32∧Hid (M=aQ (layer ds p m) 32∧m≤cnt (layer ds p m) 32)∧St w wr [ax (.slice (some ⟨g,0,none⟩) 32 32) ((List.range 32).map (gI ds p m))]) (fun mv _ _=>34-(intOf mv).toNat)
   case atStart=>exact⟨0,S,rfl,rfl,by omega,af ⟨HSV.out,Nat.zero_le _⟩,cu.out⟩
   case round=>
    obtain⟨m,M,rfl,rfl,hm,HM,MM⟩:=hrel;have wU:=af MM;clear MM cu;have abD:M<4294967296:=by rw[HM.out.1];exact dI _
    obtain⟨F,hF⟩:∃F,aQ (iD ds p m) 32=F:=⟨_,rfl⟩;obtain⟨B,hB⟩:∃B,aQ (eu ds (gq M)) 32=B:=⟨_,rfl⟩
    have hand:bits .andNot .i64 (B:Int) (M:Int)=(F:Int):=by
     rw[RJ HM.out.1 (by rw[←hB,HM.out.1];exact LD gQ.out _),hF]
    have adG:F<4294967296:=by rw[←hF];exact dI _
    have HF:=Bx.mk hF.symm;have HB:=Bx.mk hB;clear hF hB
    go_wp2_with fail
    refine(DZ A n c ds M _ (HR.out.up wU.out.below) HL.out gQ.out pz abD).mono ?_;rw[HB.out];rintro e w3 ⟨rfl,hb3⟩;have zF:=af (wU.out.quiet hb3);clear hb3
    by_cases h0:F=0
    ·have HE:=af (DU gQ.out (by rw[←HF.out];exact h0):(List.range 32).map (gI ds p m)=fJ ds p);subst h0;go_wp2;go_ret;exact⟨_,rfl,by rw[←HE.out];exact zF.out⟩
    ·obtain⟨M2,hM2⟩:∃M2,aQ (layer ds p (m+1)) 32=M2:=⟨_,rfl⟩;have hor:bits .or .i64 (M:Int) (F:Int)=(M2:Int):=by rw[UL HM.out.1 HF.out,hM2]
     have iO:=Bx.mk hM2;have YL:=af hor;have hz:((F:Int) == 0)=false:=by simp;omega
     have H0:=af h0;clear hM2 h0 hor;have zA:Hid (m+1≤cnt (layer ds p (m+1)) 32):=af (LC (by rw[←HF.out];exact H0.out) HM.out.2);have HLE:Hid (m+1≤32):=af (by have:=cnt_le (layer ds p (m+1)) 32;have:=zA.out;omega);have YK:Hid (St w w3 [ax (.slice (some ⟨g,0,none⟩) 32 32) (qC (gI ds p (m+1)) (gI ds p m) 0)]):=af (by rw[vU];exact zF.out);clear zF;go_wp2;clear hand hz
     go_loopw [37] (fun i wr=>∃k:Nat,k≤32∧i= .int .i64 k∧St w wr [ax (.slice (some ⟨g,0,none⟩) 32 32) (qC (gI ds p (m+1)) (gI ds p m) k)]) (fun i _=>32-(intOf i).toNat)
     case atStart=>exact⟨0,by omega,rfl,YK.out⟩
     case round=>
      obtain⟨k,hk,rfl,M5⟩:=hrel;have Oi:=af M5;clear M5 YK
      by_cases hlt:k<32
      ·have hbit:=and_one F k (by omega)
       by_cases hb1:bit F k=1
       ·obtain⟨hc,hf⟩:=Oi.out.oK 0 rfl (oN _ _ _) k _ (zQ _ _ k hlt);have HE:=af (GN hlt HF.out hb1);have HST:=af (Oi.out.IY 0 rfl (oN _ _ _) k ((m:Int)+1) (bU (by omega)));rw[hb1] at hbit;obtain⟨v0,hv0⟩:∃v0,gI ds p m k=v0:=⟨_,rfl⟩;rw[hv0] at hc;clear hb1 hv0;clear hi hz0 hz1 hz2 adF abD adG pz;go_wp2
        go_roundw
        case rel=>exact⟨k+1,by omega,by go_num,by rw[←yG _ _ k _ HE.out];exact HST.out⟩
        case measure=>simp[intOf];omega
       ·have hb0:bit F k=0:=by have:=jo F k;omega
        have HE:=af (GR (gI ds p (m+1)) (gI ds p m) k (Ls hlt HF.out hb0));rw[hb0] at hbit;clear hb1 hb0;go_wp2
        go_roundw
        case rel=>exact⟨k+1,by omega,by go_num,by rw[HE.out];exact Oi.out⟩
        case measure=>simp[intOf];omega
      ·have HM6:Hid (St w wr [ax (.slice (some ⟨g,0,none⟩) 32 32) ((List.range 32).map (gI ds p (m+1)))]):=af (by
        have:=Oi.out
        rw[show k=32 by omega,DW] at this
        exact this)
       have hle:=HLE.out;have hor:=YL.out;go_wp2
       go_roundw
       case rel=>exact⟨m+1,M2,by go_num,rfl,by omega,af ⟨iO.out.symm,zA.out⟩,HM6.out⟩
       case measure=>simp[intOf];omega
end Go.Proofs.YtkmcengmglgdeaaGreatDoor
