/- Joined texts: Back, More, Steps. -/
import Derived.Test.YtkmcengmglgdeaaGreatDoorSPerm
import Derived.Test.YtkmcengmglgdeaaGreatDoorSCopy
import Derived.Deep.WholeRow
import Derived.Test.YtkmcengmglgdeaaGreatDoorSPush

namespace Go.Proofs.YtkmcengmglgdeaaGreatDoor
set_option linter.unusedVariables false
set_option linter.unusedSimpArgs false
set_option maxRecDepth 100000
set_option maxHeartbeats 8000000
open Go.ChangeShapes Go.WideShapes Go.ChangeAt Go.RowKit
def fD (M:Nat):Nat→Bool:=fun s=>bit M s == 1
theorem Ii {P:Program} {w:World} {b o:Nat} {t e:TypeId} {n:Nat} {xs:List Value} (hu:P.underlying t=some (.array n e)) (hi:(P.info? t).map (·.size)=some xs.length) (h:∀j v,xs[j]? =some v→w.cell? ⟨b,o+j,none⟩=some v):
  (loadVar t ⟨b,o,none⟩).run P w= .ok (.agg xs.toArray) w:=by
 have hl:(loadCells ⟨b,o,none⟩ xs.length).run P w= .ok xs.toArray w:=run_loadCells_list (P:=P) w ⟨b,o,none⟩ xs fun j v hv=>by
  have hadd:(⟨b,o,none⟩:Addr).add j=⟨b,o+j,none⟩:=by unfold Addr.add;split<;>simp_all
  rw[hadd];exact h j v hv
 cases hq:P.info? t with
 |none=>simp[hq] at hi
 |some i=>
  have hs:i.size=xs.length:=by simpa[hq] using hi
  have hagg:(isAgg t).run P w= .ok true w:=by
   unfold isAgg
   rw[Sem.run_bind,run_underlying hu w]
   simp
  simp[loadVar,Sem.run_bind,hagg,sizeOf,typeInfo,hq,hs,hl]
theorem gB {P:Program} {w:World} {ops:Array Oper} {rest:List Oper} {o:Oper} {a:Act} {Q:Exit→Act→World→Prop} (t:TypeId) (x:Operand) (hop:o.op=Op.load t x) (hg:o.guard=none)
  (e:TypeId) (n:Nat) (hu:P.underlying t=some (.array n e)) (b off:Nat) (xs:List Value) (hx:a.eval x= .pointer (some ⟨b,off,none⟩)) (hi:(P.info? t).map (·.size)=some xs.length)
  (h:∀j v,xs[j]? =some v→w.cell? ⟨b,off+j,none⟩=some v) (hK:wpList P ops Q rest (a.put o.dst (.agg xs.toArray)) w):wpList P ops Q (o::rest) a w:=by
 refine wpList_plain hg fun K hK'=>?_
 unfold Oper.wp execOp
 simp only[hop,hx,Instr.loadAt,Instr.sureAddr,Sem.run_bind,Sem.run_pure,Result.andThen_ok,Ii hu hi h];exact hK' _ _ hK
theorem jB {P:Program} {w:World} {ops:Array Oper} {rest:List Oper} {o:Oper} {a:Act} {Q:Exit→Act→World→Prop} (t:TypeId) (x y:Operand) (hop:o.op=Op.store t x y) (hg:o.guard=none)
  (old:Array Value) (xs:List Value) (hx:a.eval x= .pointer (some ⟨w.heap.size,0,none⟩)) (hy:a.eval y= .agg xs.toArray) (hi:(P.info? t).map (·.size)=some xs.length) (ho:old.size=xs.length) (h1:∀v∈xs,v.oneCell'=true)
  (hK:wpList P ops Q rest (a.put o.dst undef) (w.alloc (.cells xs.toArray t))):wpList P ops Q (o::rest) a (w.alloc (.cells old t)):=by
 refine wpList_plain hg fun K hK'=>?_
 unfold Oper.wp execOp
 simp only[hop,hx,hy,Instr.storeAt,Instr.sureAddr,Sem.run_bind,Sem.run_pure,Result.andThen_ok,run_storeVar_new w t old xs.toArray (by simpa using hi) (by simpa using ho) (Array.all_eq_true_iff_forall_mem.2 fun v hv=>h1 v (by simpa using hv))];exact hK' _ _ hK
theorem qA {P:Program} {w:World} {t e:TypeId} {n k:Nat} {xs:List Value} {v:Value} (hu:P.underlying t=some (.array n e)) (h:xs[k]? =some v) (hn:xs.length=n) (he:(P.info? e).map (·.size)=some 1) (ha:P.underlying e=some (.int .i64)):
  (Instr.index t (.agg xs.toArray) (.int .i64 (k:Int))).run P w= .ok v w:=by
 have hk:=(aW.1 h).1
 cases hq:P.info? e with
 |none=>simp[hq] at he
 |some i=>
  have hs:i.size=1:=by simpa[hq] using he
  have hagg:(isAgg e).run P w= .ok false w:=by
   unfold isAgg
   rw[Sem.run_bind,run_underlying ha w]
   simp
  simp[Instr.index,asIntOf,run_underlying hu,Sem.run_bind,sizeOf,typeInfo,hq,hs,part,hagg,show k<n by omega,h]
theorem Ij:(Tryz.prog.info? 3).map (·.size)=some 1:=by kernel_rfl
theorem kH:(Tryz.prog.info? 108).map (·.size)=some 32:=by kernel_rfl
theorem oZ:Tryz.prog.underlying 108=some (.array 32 3):=by kernel_rfl
def rowOf (d:aj):List Value:=(List.range 32).map fun s=>.int .i64 (opt (aX d s))
theorem uz (d:aj) (s:Nat) (h:s<32):(rowOf d)[s]? =some (.int .i64 (opt (aX d s))):=by simp[rowOf,h]
theorem fM (d:aj):(rowOf d).length=32:=by simp[rowOf]
theorem BB {w:World} {B n c:Nat} {A:Option Addr} {ds:List aj} (h:bQ w B 32 A n c (ints (xP ds))) (hn:ds.length=n) {k:Nat} (hk:k<n):
  ∃b off d,A=some ⟨b,off,none⟩∧b<B∧ds[k]? =some d∧∀j v,(rowOf d)[j]? =some v→w.cell? ⟨b,off+k*32+j,none⟩=some v:=by
 obtain⟨b,off,e,hb,hc⟩:=h.at_ (by omega);refine⟨b,off,ds[k]'(by omega),e,hb,bD _,fun j v hv=>?_⟩;have hj:j<32:=by have:=(aW.1 hv).1;rwa[fM] at this
 rw[uz _ j hj] at hv;rw[Nat.add_assoc];refine hc (k*32+j) v ?_
 unfold ints
 rw[List.getElem?_map,O8 ds k j _ (bD _) hj];exact hv
def AX (d:aj) (S:Nat) (s:Nat):Bool:=(aX d s).any (fD S)
def ql (ds:List aj) (d:aj) (S m:Nat) (s:Nat):Bool:=dO ds (fD S) s||upto (AX d S) m s
theorem Ny (ds:List aj) (d:aj) (S:Nat):aN (ql ds d S 0) 32=aN (dO ds (fD S)) 32:=bY fun k _=>by simp[ql,upto]
theorem QK (ds:List aj) (d:aj) (S k:Nat) (h:ds[k]? =some d):aN (ql (ds.take k) d S 32) 32=aN (dO (ds.take (k+1)) (fD S)) 32:=bY fun s hs=>by
 rw[take_succ' h]
 simp[ql,upto,hs,dO,AX]
theorem Kw (ds:List aj) (d:aj) (S m:Nat) (h:AX d S m=false):aN (ql ds d S (m+1)) 32=aN (ql ds d S m) 32:=bY fun s hs=>by
 unfold ql upto
 by_cases e:s=m
 ·subst e;simp[h]
 ·simp[show(s<m+1)↔(s<m) by omega]
theorem QL (ds:List aj) (d:aj) (S m:Nat) (h:AX d S m=true):∀j,j<32→ql ds d S (m+1) j=(ql ds d S m j||decide (m=j)):=fun j hj=>by
 unfold ql
 rw[FY _ _ h j hj,Bool.or_assoc]
theorem FW (d:aj) (S s:Nat) (h:aX d s=none):AX d S s=false:=by unfold AX;rw[h];rfl
theorem vG (d:aj) (S s q:Nat) (h:aX d s=some q):AX d S s=(bit S q == 1):=by unfold AX;rw[h];rfl
theorem CZ (A:Option Addr) (n c:Nat) (ds:List aj) (S:Nat) (w:World) (h:bQ w w.heap.size 32 A n c (ints (xP ds))) (hn:ds.length=n) (hd:∀d∈ds,bJ d=true) (oq:n≤6) (hS:S<4294967296):
  Calls Tryz.prog 148 #[.slice A n c,.int .i64 S] w fun e w'=>e= .returned (.int .i64 (aN (dO ds (fD S)) 32:Nat))∧Below w.heap.size w w':=by
 have HR:=af h;have HL:=af hn;have gU:=af hd;clear h hn hd;go_enter Tryz.func148,Tryz.ntmps148;go_wp2
 go_loopw [12,5] (fun i sv wr=>∃k M:Nat,k≤n∧i= .int .i64 k∧sv= .int .i64 M∧Hid (M=aN (dO (ds.take k) (fD S)) 32)∧Below w.heap.size w wr) (fun i _ _=>n-(intOf i).toNat)
 case atStart=>exact⟨0,0,by omega,rfl,rfl,af (kF.2 fun _ _=>rfl).symm,ai _ _⟩
 case round=>
  obtain⟨k,M,hk,rfl,rfl,HM,hbel⟩:=hrel;have HB:=af hbel;clear hbel
  by_cases hlt:k<n
  ·obtain⟨b,off,d,rfl,hb,hdk,hrow⟩:=BB HR.out HL.out hlt;have SS:Hid (∀j v,(rowOf d)[j]? =some v→wr.cell? ⟨b,off+k*32+j,none⟩=some v):=af fun j v hv=>(aC HB.out b _ hb).trans (hrow j v hv)
   have HDK:=af hdk;clear hrow hdk
   go_wp2_with (first
    | (refine gB 108 (.tmp 14) rfl rfl 3 32 oZ b (off+k*32) (rowOf d) rfl (by rw[fM];exact kH) SS.out ?_)
    | (refine jB 108 (.tmp 7) (.tmp 15) rfl rfl _ (rowOf d) rfl rfl (by rw[fM];exact kH) (by rw[fM];rfl) (by simp[rowOf,Value.oneCell']) ?_)
    | (refine gB 108 (.tmp 7) rfl rfl 3 32 oZ wr.heap.size 0 (rowOf d) rfl (by rw[fM];exact kH) (by simp) ?_))
   have Bz:Hid (M=aN (ql (ds.take k) d S 0) 32):=af (HM.out.trans (Ny _ _ _).symm);have L8:=af (gU.out d (bU HDK.out));have HB1:Hid (Below w.heap.size w (wr.alloc (.cells (rowOf d).toArray 108))):=af (HB.out.alloc HB.out.size _);have Ae:=af (uz d);have HLEN:=af (fM d)
   generalize rowOf d=R at Ae HLEN HB1 ⊢
   clear SS HM
   go_loopw [17,5] (fun i sv wr=>∃m M:Nat,m≤32∧i= .int .i64 m∧sv= .int .i64 M∧Hid (M=aN (ql (ds.take k) d S m) 32)∧Below w.heap.size w wr) (fun i _ _=>32-(intOf i).toNat)
   case atStart=>exact⟨0,M,by omega,rfl,rfl,Bz,HB1.out⟩
   case round=>
    clear Bz HB1 HB;obtain⟨m,M1,wQ,rfl,rfl,HM,hbel⟩:=hrel;have HB:=af hbel;clear hbel
    by_cases hm:m<32
    ·obtain⟨o,ho⟩:∃o,aX d m=o:=⟨_,rfl⟩;have hix:=Ae.out m hm;rw[ho] at hix;have O9:=fun w=>qA (P:=Tryz.prog) (w:=w) (xs:=R) (k:=m) (v:=.int .i64 (opt o)) oZ hix HLEN.out Ij Tryz.underlying3
     have HO:=af ho;clear ho
     cases o with
     |none=>
      have gY:Hid (M1=aN (ql (ds.take k) d S (m+1)) 32):=af (HM.out.trans (Kw _ d S m (FW d S m HO.out)).symm);simp only[opt] at O9;go_wp2
      go_roundw
      case rel=>exact⟨m+1,M1,by omega,by go_num,rfl,gY,HB.out⟩
      case measure=>simp[intOf];omega
     |some q=>
      have hq:=gu d m q L8.out hm HO.out;have hbit:=and_one S q (by omega);simp only[opt] at O9
      by_cases hs1:bit S q=1
      ·rw[hs1] at hbit;have hpw:=lg m (by omega);have hor:=zn hm HM.out (QL (ds.take k) d S m (by rw[vG d S m q HO.out,hs1];rfl));clear hs1;go_wp2
       go_roundw
       case rel=>exact⟨m+1,_,by omega,by go_num,rfl,af rfl,HB.out⟩
       case measure=>simp[intOf];omega
      ·have hs0:bit S q=0:=by have:=jI S q;omega
       rw[hs0] at hbit;have gY:Hid (M1=aN (ql (ds.take k) d S (m+1)) 32):=af (HM.out.trans (Kw _ d S m (by rw[vG d S m q HO.out,hs0];rfl)).symm);clear hs1 hs0;go_wp2
       go_roundw
       case rel=>exact⟨m+1,M1,by omega,by go_num,rfl,gY,HB.out⟩
       case measure=>simp[intOf];omega
    ·have gY:Hid (M1=aN (dO (ds.take (k+1)) (fD S)) 32):=af (by rw[HM.out,show m=32 by omega];exact QK ds d S k HDK.out);go_wp2
     go_roundw
     case rel=>exact⟨k+1,M1,by omega,by go_num,rfl,gY,HB.out⟩
     case measure=>simp[intOf];omega
  ·have HF:Hid (M=aN (dO ds (fD S)) 32):=af (by
    rw[HM.out,dJ (by rw[HL.out];omega)])
   go_wp2;go_ret;exact⟨aG (by rw[HF.out]),HB.out⟩
structure Bx (p:Prop):Prop where
 out:p
theorem St.vP {w W W':World} {L:List dW} (h:St w W L) (i:Nat) {v v':Value} {xs ys:List Int} {n:Nat} (hi:L[i]? =some (aA v xs)) (hn:n=xs.length+ys.length) (hown:W'.ownsRow 0 3 1 v' n (Go.Proofs.YtkmcengmglgdeaaGreatDoor.ints xs++Go.Proofs.YtkmcengmglgdeaaGreatDoor.ints ys)) (hwf:∀y∈ys,(Lit.int .i64 y).wf=true)
  (hg:W.grownBy W' v.ownBlock) (hat:v'.ownBlock=v.ownBlock∨v'.ownBlock=some W.heap.size):St w W' (L.set i (aA v' (xs++ys))):=
 h.mod i hi fun F h1 _=>⟨v'.ownBlock.toList,⟨by subst hn;rw[bK,qf];exact hown,fun x hx=>(List.mem_append.1 hx).elim (h1.wf x) (hwf x),rfl⟩,fun b hb=>by
  rcases hat with e | e
  ·left;rw[h1.foot,←e];exact hb
  ·right;rw[e] at hb;simp at hb;omega,by rw[h1.foot];exact Only.nN hg⟩
theorem St.rU {w W:World} {L:List dW} (h:St w W L) (i:Nat) {v:Value} {xs:List Int} (hi:L[i]? =some (aA v xs)):W.ownsRow 0 3 1 v xs.length (Go.Proofs.YtkmcengmglgdeaaGreatDoor.ints xs):=by
 obtain⟨F,h1⟩:=h.ints i hi;exact qG h1.row (Nat.zero_le _)
def pW (y z:Nat→Int) (k:Nat):List Int:=(List.range 32).map fun i=>if i<k then y i else z i
theorem nO (y z:Nat→Int) (k:Nat):(pW y z k).length=32:=by simp[pW]
theorem Ws (y z:Nat→Int) (k j:Nat) (h:j<32):(pW y z k)[j]? =some (if j<k then y j else z j):=by simp[pW,h]
theorem zl (y z:Nat→Int) (k:Nat) (h:k<32):(pW y z k)[k]? =some (z k):=by rw[Ws y z k k h,if_neg (by omega)]
theorem xM (y z:Nat→Int) (k:Nat) (x:Int) (hx:x=y k):(pW y z k).set k x=pW y z (k+1):=by
 subst hx
 apply List.ext_getElem?
 intro i;rw[List.getElem?_set]
 unfold pW
 simp only[List.getElem?_map,List.length_map,List.length_range]
 by_cases e:k=i
 ·subst e;rw[if_pos rfl]
  by_cases h:k<32
  ·rw[if_pos h,List.getElem?_range h];simp
  ·rw[if_neg h,List.getElem?_eq_none (by simp;omega)];rfl
 ·rw[if_neg e]
  by_cases h:i<32
  ·rw[List.getElem?_range h];simp[show(i<k+1)↔(i<k) by omega]
  ·rw[List.getElem?_eq_none (by simp;omega)];rfl
theorem FV (y z:Nat→Int) (k:Nat) (h:y k=z k):pW y z (k+1)=pW y z k:=by
 unfold pW
 refine List.map_congr_left fun i _=>?_
 by_cases e:i=k
 ·subst e;simp[h]
 ·simp[show(i<k+1)↔(i<k) by omega]
theorem vC (y z:Nat→Int):pW y z 0=(List.range 32).map z:=by unfold pW;simp
theorem CW (y z:Nat→Int):pW y z 32=(List.range 32).map y:=by
 unfold pW
 refine List.map_congr_left fun i hi=>?_
 simp[List.mem_range.1 hi]
def eP (ds:List aj) (p:Nat→Bool):List Int:=(List.range 32).map (iQ ds p)
theorem jo (ds:List aj) (p:Nat→Bool):(eP ds p).length=32:=by simp[eP]
theorem lM (ds:List aj) (p:Nat→Bool) (s:Nat) (h:s<32):(eP ds p)[s]? =some (iQ ds p s):=by simp[eP,h]
theorem FX (p:Nat→Bool):∀s,s<32→fD (aN p 32) s=p s:=fun s hs=>jg p hs
theorem Ku {ds:List aj} (hd:∀d∈ds,bJ d=true) (p:Nat→Bool):aN (dO ds (fD (aN p 32))) 32=aN (dO ds p) 32:=bY fun s hs=>uy hd hs (FX p)
def gG (ds:List aj) (p:Nat→Bool) (m:Nat):Nat→Bool:=fun s=>dO ds (layer ds p m) s&& !layer ds p m s
theorem QI {ds:List aj} {p:Nat→Bool} {m M B:Nat} (hM:M=aN (layer ds p m) 32) (hB:B=aN (dO ds (layer ds p m)) 32):bits .andNot .i64 (B:Int) (M:Int)=((aN (gG ds p m) 32:Nat):Int):=by
 have h1:=cZ (layer ds p m);have h2:=cZ (dO ds (layer ds p m));rw[tY _ _ (by omega) (by omega),hM,hB,Qq]
 rfl
theorem Nv {ds:List aj} {p:Nat→Bool} {m:Nat} (h:aN (gG ds p m) 32=0):jU ds p m:=fun s hs hb=>by
 have:=kF.1 h s hs
 unfold gG at this
 rw[hb] at this
 simpa using this
theorem Nw {ds:List aj} {p:Nat→Bool} {m:Nat} (h:aN (gG ds p m) 32≠0):¬jU ds p m:=fun hf=>h (kF.2 fun s hs=>by
 unfold gG
 cases hb:dO ds (layer ds p m) s with
 |false=>rfl
 |true=>rw[hf s hs hb];rfl)
theorem Uj {ds:List aj} {p:Nat→Bool} {m M F:Nat} (hM:M=aN (layer ds p m) 32) (hF:F=aN (gG ds p m) 32):bits .or .i64 (M:Int) (F:Int)=((aN (layer ds p (m+1)) 32:Nat):Int):=by
 have h1:=cZ (layer ds p m);have h2:=cZ (gG ds p m)
 have key:aN (fun s=>layer ds p m s||gG ds p m s) 32=aN (layer ds p (m+1)) 32:=bY fun s hs=>by
  show(layer ds p m s||(dO ds (layer ds p m) s&& !layer ds p m s))=(layer ds p m s||dO ds (layer ds p m) s)
  generalize layer ds p m s=a
  generalize dO ds (layer ds p m) s=b
  cases a<;>cases b<;>rfl
 rw[qZ _ _ (by omega) (by omega),hM,hF,Bq,key]
theorem FU {ds:List aj} {p:Nat→Bool} {m s F:Nat} (hs:s<32) (hF:F=aN (gG ds p m) 32) (h:bit F s=1):((m:Int)+1)=fK ds p (m+1) s:=by
 have:gG ds p m s=true:=by rw[←jg (gG ds p m) hs,←hF,h];rfl
 unfold gG at this
 simp only[Bool.and_eq_true,Bool.not_eq_true'] at this
 simp[fK,this.1,this.2]
theorem Kq {ds:List aj} {p:Nat→Bool} {m s F:Nat} (hs:s<32) (hF:F=aN (gG ds p m) 32) (h:bit F s=0):fK ds p (m+1) s=fK ds p m s:=by
 have:gG ds p m s=false:=by rw[←jg (gG ds p m) hs,←hF,h];rfl
 unfold gG at this
 cases hl:layer ds p m s with
 |true=>simp[fK,hl]
 |false=>
  rw[hl] at this;have hb:dO ds (layer ds p m) s=false:=by simpa using this
  rw[qM hl]
  simp[fK,hl,hb]
theorem Kt {ds:List aj} {p:Nat→Bool} {m:Nat} (h:aN (gG ds p m) 32≠0) (hc:m≤cnt (layer ds p m) 32):m+1≤cnt (layer ds p (m+1)) 32:=by
 have:=Kv (Nw h);omega
theorem CU {ds:List aj} {p:Nat→Bool} {m:Nat} (hd:∀d∈ds,bJ d=true) (h:aN (gG ds p m) 32=0):(List.range 32).map (fK ds p m)=eP ds p:=by
 unfold eP
 refine List.map_congr_left fun s hs=>?_
 exact(CV hd (Nv h) (List.mem_range.1 hs)).symm
theorem QJ {ds:List aj} {p:Nat→Bool} {s:Nat} (hs:s<32) (h:bit (aN p 32) s=1):(0:Int)=fK ds p 0 s:=by
 have:p s=true:=by rw[←jg p hs,h];rfl
 simp[fK,this]
theorem Uk {ds:List aj} {p:Nat→Bool} {s:Nat} (hs:s<32) (h:bit (aN p 32) s=0):(-1:Int)=fK ds p 0 s:=by
 have:p s=false:=by rw[←jg p hs,h];rfl
 simp[fK,this]
theorem EJ (A:Option Addr) (n c:Nat) (ds:List aj) (p:Nat→Bool) (S:Nat) (w:World) (h:bQ w w.heap.size 32 A n c (ints (xP ds))) (hn:ds.length=n) (hd:∀d∈ds,bJ d=true) (oq:n≤6) (hS:S=aN p 32):
  Calls Tryz.prog 87 #[.slice A n c,.int .i64 S] w (Gives w id fun v=>[aA v (eP ds p)]):=by
 have HR:=af h;have HL:=af hn;have gU:=af hd;have HSV:=Bx.mk hS;have adq:S<4294967296:=by rw[hS];exact cZ p
 obtain⟨i0,hi,hz0,hz1,hz2⟩:=jv.hi;obtain⟨g,hg⟩:∃g,w.heap.size=g:=⟨_,rfl⟩;have HG:=af hg;clear h hn hd hS;go_enter Tryz.func87,Tryz.ntmps87
 go_wp2_with (at_make;refine wpList_make_full _ rfl _ _ 23 rfl w.heap.size 3 i0 _ 1 Tryz.underlying23 hi hz0 hz1 _ _ _ _ 32 rfl rfl rfl rfl (by rw[hz2];omega) (by unfold maxLen;omega) (ay _) ?_;intro w2 hown hgr)
 have S2:St w w2 [aA (.slice (some ⟨g,0,none⟩) 32 32) (pW (fK ds p 0) (fun _=>0) 0)]:=by
  refine St.xB (F:=[g]) ⟨?_,?_,?_⟩ ((ai _ _).grown hgr (ay _) (by simp))
  ·have e:(madeCells (Value.int IntKind.i64 0).cells (32*1)).toList=ints (pW (fK ds p 0) (fun _=>0) 0):=by
    show(madeCells #[Value.int IntKind.i64 0] 32).toList=_
    rw[toList_madeCells_one,vC]
    rfl
   rw[nO,←hg];rw[e] at hown;exact hown
  ·rw[vC];intro x hx;obtain⟨_,_,rfl⟩:=List.mem_map.1 hx
   rfl
  ·rfl
 have HS2:=af S2
 try rw[hg]
 clear hown hgr S2 hg;go_wp2
 go_loopw [13] (fun i wr=>∃k:Nat,k≤32∧i= .int .i64 k∧St w wr [aA (.slice (some ⟨g,0,none⟩) 32 32) (pW (fK ds p 0) (fun _=>0) k)]) (fun i _=>32-(intOf i).toNat)
 case atStart=>exact⟨0,by omega,rfl,HS2.out⟩
 case round=>
  obtain⟨k,hk,rfl,M⟩:=hrel;have HM:=af M;clear M HS2
  by_cases hlt:k<32
  ·obtain⟨hc,hf⟩:=HM.out.qj 0 rfl (nO _ _ _) k 0 (zl _ _ k hlt);have hbit:=and_one S k (by omega)
   by_cases hb1:bit S k=1
   ·have HST:=af (HM.out.Ih 0 rfl (nO _ _ _) k 0 rfl);have HE:Hid ((0:Int)=fK ds p 0 k):=af (QJ hlt (by rw[←HSV.out];exact hb1));rw[hb1] at hbit;clear hb1;go_wp2
    go_roundw
    case rel=>exact⟨k+1,by omega,by go_num,by rw[←xM _ _ k 0 HE.out];exact HST.out⟩
    case measure=>simp[intOf];omega
   ·have hb0:bit S k=0:=by have:=jI S k;omega
    have HST:=af (HM.out.Ih 0 rfl (nO _ _ _) k (-1) rfl);have HE:Hid ((-1:Int)=fK ds p 0 k):=af (Uk hlt (by rw[←HSV.out];exact hb0));rw[hb0] at hbit;clear hb1 hb0;go_wp2
    go_roundw
    case rel=>exact⟨k+1,by omega,by go_num,by rw[←xM _ _ k (-1) HE.out];exact HST.out⟩
    case measure=>simp[intOf];omega
  ·have dV:Hid (St w wr [aA (.slice (some ⟨g,0,none⟩) 32 32) ((List.range 32).map (fK ds p 0))]):=af (by
    have:=HM.out
    rw[show k=32 by omega,CW] at this
    exact this)
   clear HM;go_wp2
   go_loopw [7,1] (fun mv sv wr=>∃m M:Nat,mv= .int .i64 ((m:Int)+1)∧sv= .int .i64 M∧m≤32∧Hid (M=aN (layer ds p m) 32∧m≤cnt (layer ds p m) 32)∧St w wr [aA (.slice (some ⟨g,0,none⟩) 32 32) ((List.range 32).map (fK ds p m))]) (fun mv _ _=>34-(intOf mv).toNat)
   case atStart=>exact⟨0,S,rfl,rfl,by omega,af ⟨HSV.out,Nat.zero_le _⟩,dV.out⟩
   case round=>
    obtain⟨m,M,rfl,rfl,hm,HM,MM⟩:=hrel;have rV:=af MM;clear MM dV;have aa4:M<4294967296:=by rw[HM.out.1];exact cZ _
    obtain⟨F,hF⟩:∃F,aN (gG ds p m) 32=F:=⟨_,rfl⟩;obtain⟨B,hB⟩:∃B,aN (dO ds (fD M)) 32=B:=⟨_,rfl⟩
    have hand:bits .andNot .i64 (B:Int) (M:Int)=(F:Int):=by
     rw[QI HM.out.1 (by rw[←hB,HM.out.1];exact Ku gU.out _),hF]
    have adr:F<4294967296:=by rw[←hF];exact cZ _
    have HF:=Bx.mk hF.symm;have HB:=Bx.mk hB;clear hF hB
    go_wp2_with fail
    refine(CZ A n c ds M _ (HR.out.up rV.out.below) HL.out gU.out oq aa4).mono ?_;rw[HB.out];rintro e w3 ⟨rfl,hb3⟩;have BA:=af (rV.out.quiet hb3);clear hb3
    by_cases h0:F=0
    ·have HE:=af (CU gU.out (by rw[←HF.out];exact h0):(List.range 32).map (fK ds p m)=eP ds p);subst h0;go_wp2;go_ret;exact⟨_,rfl,by rw[←HE.out];exact BA.out⟩
    ·obtain⟨M2,hM2⟩:∃M2,aN (layer ds p (m+1)) 32=M2:=⟨_,rfl⟩;have hor:bits .or .i64 (M:Int) (F:Int)=(M2:Int):=by rw[Uj HM.out.1 HF.out,hM2]
     have gY:=Bx.mk hM2;have XY:=af hor;have hz:((F:Int) == 0)=false:=by simp;omega
     have H0:=af h0;clear hM2 h0 hor;have yL:Hid (m+1≤cnt (layer ds p (m+1)) 32):=af (Kt (by rw[←HF.out];exact H0.out) HM.out.2);have HLE:Hid (m+1≤32):=af (by have:=cnt_le (layer ds p (m+1)) 32;have:=yL.out;omega);have XW:Hid (St w w3 [aA (.slice (some ⟨g,0,none⟩) 32 32) (pW (fK ds p (m+1)) (fK ds p m) 0)]):=af (by rw[vC];exact BA.out);clear BA;go_wp2;clear hand hz
     go_loopw [37] (fun i wr=>∃k:Nat,k≤32∧i= .int .i64 k∧St w wr [aA (.slice (some ⟨g,0,none⟩) 32 32) (pW (fK ds p (m+1)) (fK ds p m) k)]) (fun i _=>32-(intOf i).toNat)
     case atStart=>exact⟨0,by omega,rfl,XW.out⟩
     case round=>
      obtain⟨k,hk,rfl,M5⟩:=hrel;have Nk:=af M5;clear M5 XW
      by_cases hlt:k<32
      ·have hbit:=and_one F k (by omega)
       by_cases hb1:bit F k=1
       ·obtain⟨hc,hf⟩:=Nk.out.qj 0 rfl (nO _ _ _) k _ (zl _ _ k hlt);have HE:=af (FU hlt HF.out hb1);have HST:=af (Nk.out.Ih 0 rfl (nO _ _ _) k ((m:Int)+1) (dU (by omega)));rw[hb1] at hbit;obtain⟨v0,hv0⟩:∃v0,fK ds p m k=v0:=⟨_,rfl⟩;rw[hv0] at hc;clear hb1 hv0;clear hi hz0 hz1 hz2 adq aa4 adr oq;go_wp2
        go_roundw
        case rel=>exact⟨k+1,by omega,by go_num,by rw[←xM _ _ k _ HE.out];exact HST.out⟩
        case measure=>simp[intOf];omega
       ·have hb0:bit F k=0:=by have:=jI F k;omega
        have HE:=af (FV (fK ds p (m+1)) (fK ds p m) k (Kq hlt HF.out hb0));rw[hb0] at hbit;clear hb1 hb0;go_wp2
        go_roundw
        case rel=>exact⟨k+1,by omega,by go_num,by rw[HE.out];exact Nk.out⟩
        case measure=>simp[intOf];omega
      ·have HM6:Hid (St w wr [aA (.slice (some ⟨g,0,none⟩) 32 32) ((List.range 32).map (fK ds p (m+1)))]):=af (by
        have:=Nk.out
        rw[show k=32 by omega,CW] at this
        exact this)
       have hle:=HLE.out;have hor:=XY.out;go_wp2
       go_roundw
       case rel=>exact⟨m+1,M2,by go_num,rfl,by omega,af ⟨gY.out.symm,yL.out⟩,HM6.out⟩
       case measure=>simp[intOf];omega
end Go.Proofs.YtkmcengmglgdeaaGreatDoor
