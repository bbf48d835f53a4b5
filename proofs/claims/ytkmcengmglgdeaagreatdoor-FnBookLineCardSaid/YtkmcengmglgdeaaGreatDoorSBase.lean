/- Joined texts: Base, Mem, Pure. -/
import Derived.Test.YtkmcengmglgdeaaGreatDoorRows
import Derived.WalkKit
import Derived.ProofKit
import Derived.OpenShut
import Derived.Below
import Derived.Deep.QuietTactic
import Derived.BigQuiet
import Derived.Lib.Hide
import Derived.Laws.BitsAllLaws
import Derived.Laws.BitsLemmas
import Derived.Maps.AppendAt
import Derived.OwnWalk
import Derived.Laws.OwnMore
import Derived.Laws.MakeOwn

namespace Go.Proofs.YtkmcengmglgdeaaGreatDoor
set_option linter.unusedVariables false
set_option linter.unusedSimpArgs false
set_option maxRecDepth 100000
set_option maxHeartbeats 8000000
open Go.ChangeShapes Go.WideShapes Go.ChangeAt Go.RowKit
theorem af {p:Prop} (h:p):RowKit.Hid p:=h
theorem aO {α:Type _} (l:List α) (i:Nat) (a:α):l.toArray.setIfInBounds i a=(l.set i a).toArray:=List.setIfInBounds_toArray l i a
theorem aU {α:Type _} {x:α} {xs:List α} {a:α}:(x::xs).set 0 a=a::xs:=rfl
theorem aW {α:Type _} {x:α} {xs:List α} {i:Nat} {a:α}:(x::xs).set (i+1) a=x::xs.set i a:=rfl
theorem bI {α:Type _} {i:Nat} {a:α} {l:List α}:l[i]? =some a↔∃h:i<l.length,l[i]=a:=List.getElem?_eq_some_iff
theorem bH {α:Type _} {l:List α} {i:Nat} (h:i<l.length):l[i]? =some l[i]:=List.getElem?_eq_getElem h
theorem bC {a:Int} (h:0≤a):∃n:Nat,a=n:=Int.eq_ofNat_of_zero_le h
theorem bQ {α:Type _} {xs ys:List α}:(xs++ys).length=xs.length+ys.length:=List.length_append
theorem bT {α:Type _} {l:List α} {i:Nat} {a:α} (h:l[i]? =some a):a∈l:=List.mem_of_getElem? h
theorem ai (B:Nat) (w:World):Below B w w:=Below.refl B w
theorem bM {α:Type _} {a:α} {xs:List α}:(a::xs).length=xs.length+1:=rfl
theorem aA (n:Nat):n≤n:=Nat.le_refl n
theorem bW (n:Nat):(n:Int).toNat=n:=rfl
theorem gW {α:Type _} {i:Nat} {l:List α} (h:l.length≤i):l.take i=l:=List.take_of_length_le h
theorem dH {b:Bool}:b=false↔b≠true:=Bool.eq_false_iff
theorem mg (a:Nat) (ha:a<9223372036854775808):(BitVec.ofInt 64 (a:Int)).toNat=a:=by
 rw[BitVec.ofInt_natCast,BitVec.toNat_ofNat];exact Nat.mod_eq_of_lt (by omega)
theorem jP (a b:Nat) (ha:a<9223372036854775808) (hb:b<9223372036854775808):bits .and .i64 (a:Int) (b:Int)=((a &&& b:Nat):Int):=by
 have hx:a &&& b<2^63:=Nat.and_lt_two_pow _ (by omega)
 show IntKind.i64.wrap ((BitVec.ofInt 64 (a:Int) &&& BitVec.ofInt 64 (b:Int)).toNat:Int)=_
 rw[BitVec.toNat_and,mg a ha,mg b hb,IntKind.wrap_i64]
 omega
theorem nT (a b:Nat) (ha:a<9223372036854775808) (hb:b<9223372036854775808):bits .or .i64 (a:Int) (b:Int)=((a ||| b:Nat):Int):=by
 have hx:a ||| b<2^63:=Nat.or_lt_two_pow (by omega) (by omega)
 show IntKind.i64.wrap ((BitVec.ofInt 64 (a:Int) ||| BitVec.ofInt 64 (b:Int)).toNat:Int)=_
 rw[BitVec.toNat_or,mg a ha,mg b hb,IntKind.wrap_i64]
 omega
theorem AX (a b:Nat) (ha:a<9223372036854775808) (hb:b<9223372036854775808):bits .xor .i64 (a:Int) (b:Int)=((a^^^b:Nat):Int):=by
 have hx:a^^^b<2^63:=Nat.xor_lt_two_pow (by omega) (by omega)
 show IntKind.i64.wrap ((BitVec.ofInt 64 (a:Int)^^^BitVec.ofInt 64 (b:Int)).toNat:Int)=_
 rw[BitVec.toNat_xor,mg a ha,mg b hb,IntKind.wrap_i64]
 omega
theorem uI (a b:Nat) (ha:a<9223372036854775808) (hb:b<9223372036854775808):bits .andNot .i64 (a:Int) (b:Int)=((a-(a &&& b):Nat):Int):=by
 have hx:a &&& b≤a:=Nat.and_le_left
 have key:(BitVec.ofInt 64 (a:Int) &&& ~~~ BitVec.ofInt 64 (b:Int)).toNat=a-(a &&& b):=by
  have e:BitVec.ofInt 64 (a:Int) &&& ~~~ BitVec.ofInt 64 (b:Int)=BitVec.ofInt 64 (a:Int)-(BitVec.ofInt 64 (a:Int) &&& BitVec.ofInt 64 (b:Int)):=by
   generalize BitVec.ofInt 64 (a:Int)=x
   generalize BitVec.ofInt 64 (b:Int)=y
   rw[BitVec.sub_eq_add_neg]
   have h1:x=(x &&& ~~~ y)+(x &&& y):=by
    rw[BitVec.add_eq_or_of_and_eq_zero]
    ·ext i;simp;cases x[i]<;>cases y[i]<;>rfl
    ·ext i;simp;cases x[i]<;>cases y[i]<;>simp
   conv=>rhs;lhs;rw[h1]
   rw[BitVec.add_assoc,BitVec.add_right_neg,BitVec.add_zero]
  rw[e,BitVec.toNat_sub_of_le,BitVec.toNat_and,mg a ha,mg b hb];rw[BitVec.le_def,BitVec.toNat_and];exact Nat.and_le_left
 show IntKind.i64.wrap ((BitVec.ofInt 64 (a:Int) &&& ~~~ BitVec.ofInt 64 (b:Int)).toNat:Int)=_
 rw[key,IntKind.wrap_i64]
 omega
theorem aP {k:IntKind} {a b:Int} (h:a=b):Ending.returned (.int k a)= .returned (.int k b):=by rw[h]
theorem aY {a b:Bool} (h:a=b):Ending.returned (.bool a)= .returned (.bool b):=by rw[h]
theorem toNat_cast {a:Int} (h:0≤a):((a.toNat:Nat):Int)=a:=Int.toNat_of_nonneg h
structure jd (k:IntKind) (w:World) (B:Nat) (A:Option Addr) (n c:Nat) (xs:List Int):Prop where
 len:xs.length=n
 cap:n≤c
 dw:c≤maxLen
 wf:∀x∈xs,(Lit.int k x).wf=true
 at_:0<n→∃b off,A=some ⟨b,off,none⟩∧b<B∧∀i x,xs[i]? =some x→w.cell? ⟨b,off+i,none⟩=some (.int k x)
section
variable {k : IntKind} {w w' : World} {B : Nat} {A : Option Addr} {n c : Nat} {xs : List Int}
theorem jd.keep (h:jd k w B A n c xs) (hk:∀b o,b<B→w'.cell? ⟨b,o,none⟩=w.cell? ⟨b,o,none⟩):jd k w' B A n c xs:=
 ⟨h.len,h.cap,h.dw,h.wf,fun hn=>by
  obtain⟨b,off,e,hb,hc⟩:=h.at_ hn
  exact⟨b,off,e,hb,fun i x hx=>(hk b _ hb).trans (hc i x hx)⟩⟩
theorem jd.below (h:jd k w B A n c xs) (hb:Below B w w'):jd k w' B A n c xs:=
 h.keep fun b o hlt=>hb.cell (p:=⟨b,o,none⟩) hlt
theorem jd.more {B':Nat} (h:jd k w B A n c xs) (hB:B≤B'):jd k w B' A n c xs:=
 ⟨h.len,h.cap,h.dw,h.wf,fun hn=>by
  obtain⟨b,off,e,hb,hc⟩:=h.at_ hn
  exact⟨b,off,e,by omega,hc⟩⟩
theorem jd.get (h:jd k w B A n c xs) {i:Nat} (hi:i<n):∃b off x,A=some ⟨b,off,none⟩∧b<B∧xs[i]? =some x∧(Lit.int k x).wf=true∧w.cell? ⟨b,off+i,none⟩=some (.int k x):=by
 obtain⟨b,off,e,hb,hc⟩:=h.at_ (by omega);have hl:i<xs.length:=by rw[h.len];exact hi
 exact⟨b,off,xs[i],e,hb,bH hl,h.wf _ (List.getElem_mem hl),hc i _ (bH hl)⟩
theorem jd.nil_ (k:IntKind) (w:World) (B:Nat):jd k w B none 0 0 []:=⟨rfl,aA _,by unfold maxLen;omega,by simp,fun h=>absurd h (by omega)⟩
theorem jd.ZO {base:Nat} {e:TypeId} {v:Value} (h:w.ownsRow base e 1 v n (xs.map (.int k))) (hw:∀x∈xs,(Lit.int k x).wf=true):
  ∃A c,v= .slice A n c∧jd k w w.heap.size A n c xs:=by
 obtain⟨hl,h2⟩:=h
 rcases h2 with⟨rfl,rfl⟩ | ⟨g,cap,cur,rfl,hb,hh,h3,h4,h5,h6⟩
 ·exact⟨none,0,rfl,by simpa using hl,aA _,by unfold maxLen;omega,hw,fun h=>absurd h (by omega)⟩
 ·refine⟨_,_,rfl,by simpa using hl,h3,h4,hw,fun _=>⟨g,0,rfl,(Array.getElem?_eq_some_iff.1 hh).1,fun i x hx=>?_⟩⟩;have hc:w.cell? ⟨g,0+i,none⟩=cur[i]? :=by rw[Nat.zero_add];exact cell_of_row w g i cur e (0,0) hh
  rw[hc];have h7:(cur.toList.take (n*1))[i]? =some (.int k x):=by rw[h6];simp[hx]
  rw[List.getElem?_take] at h7
  split at h7
  ·simpa using h7
  ·cases h7
theorem WR {base:Nat} {e:TypeId} (h:w.ownsRow base e 1 (.slice A n c) n (xs.map (.int k))) (hw:∀x∈xs,(Lit.int k x).wf=true):jd k w w.heap.size A n c xs:=by
 obtain⟨A',c',e,hr⟩:=jd.ZO h hw;simp only[Value.slice.injEq] at e;obtain⟨rfl,-,rfl⟩:=e;exact hr
end
theorem aF {B:Nat} {w w':World} (h:Below B w w'):∀b o,b<B→w'.cell? ⟨b,o,none⟩=w.cell? ⟨b,o,none⟩:=fun b o hlt=>h.cell (p:=⟨b,o,none⟩) hlt
theorem wf_i64 {x:Int} (h:(Lit.int .i64 x).wf=true): -9223372036854775808≤x∧x≤9223372036854775807:=by
 simpa[Lit.wf,IntKind.min,IntKind.max,IntKind.signed,IntKind.bits] using h
theorem wf_u8 {x:Int} (h:(Lit.int .u8 x).wf=true):0≤x∧x≤255:=by
 simpa[Lit.wf,IntKind.min,IntKind.max,IntKind.signed,IntKind.bits] using h
theorem bU {x:Int} (h: -9223372036854775808≤x∧x≤9223372036854775807):(Lit.int .i64 x).wf=true:=by
 simpa[Lit.wf,IntKind.min,IntKind.max,IntKind.signed,IntKind.bits] using h
theorem J6 {P:Program} {H:Type} {enc:TypeId×Value→H} {W:World} {base:Nat} {spare:Nat→Bool} {held:Bool} {fuel:Nat} {k:IntKind} {t e:TypeId} {A:Option Addr} {n c:Nat} {x:DataW H×List MemPlace}
  (ht:P.underlying t=some (.slice e)) (he:P.underlying e=some (.int k)) (hc:P.cellsOf e=1) (h:DataW.trod enc P W base spare held fuel t (Value.slice A n c).cells.toList=some x):
  ∃xs,jd k W W.heap.size A n c xs:=by
 rcases open_ints ht he hc h with⟨hcs,_⟩ | ⟨a,l,cc,zs,hcs,_,hl,hm,hz,_,hcell,hwz⟩
 ·simp[Value.cells] at hcs
  obtain⟨rfl,rfl,rfl⟩:=hcs;exact⟨[],jd.nil_ _ _ _⟩
 ·simp[Value.cells] at hcs
  obtain⟨rfl,rfl,rfl⟩:=hcs;have hlz:n≤zs.length:=by rw[hz];split<;>omega
  refine⟨zs.take n,by simp;omega,hl,hm,fun y hy=>hwz y (List.mem_of_mem_take hy),fun hn=>?_⟩;obtain⟨b,off,rfl,hat⟩:=ints_at hcell (by omega);have h0:=hat 0 (by omega);refine⟨b,off,rfl,World.block_lt_of_cell? W _ h0,fun i y hy=>?_⟩;rw[List.getElem?_take] at hy
  split at hy
  ·rename_i hi;rw[hat i (by omega),List.getD,hy];rfl
  ·cases hy
def fU (w:World) (g:Nat) (t:TypeId) (cs:Array Value):Prop:=w.heap[g]? =some (.cells cs t (0,0))
section
variable {w w' : World} {g : Nat} {t : TypeId} {cs : Array Value}
theorem fU.lt (h:fU w g t cs):g<w.heap.size:=(Array.getElem?_eq_some_iff.1 h).1
theorem fU.cell (h:fU w g t cs) (i:Nat):w.cell? ⟨g,i,none⟩=cs[i]? :=cell_of_row w g i cs t (0,0) h
theorem fU.frozen (h:fU w g t cs) (i:Nat):w.frozen? ⟨g,i,none⟩=false:=by unfold fU at h;simp[World.frozen?,h]
theorem fU.new (w:World) (t:TypeId) (cs:Array Value):fU (w.alloc (.cells cs t)) w.heap.size t cs:=heap_alloc_new w _
theorem fU.drewN (h:fU w g t cs) (n:Nat):fU (w.drewN n) g t cs:=h
theorem fU.alloc (h:fU w g t cs) (o:Obj):fU (w.alloc o) g t cs:=(Below.heap_alloc w o g h.lt).trans h
theorem fU.nM (h:fU w g t cs) (i:Nat) (u:Value):fU (w.setCell ⟨g,i,none⟩ u) g t (cs.setIfInBounds i u):=by
 unfold fU at h ⊢
 simp[World.setCell,Array.getElem?_modify,h]
theorem fU.far (h:fU w g t cs) {p:Addr} (hp:g≠p.block) (u:Value):fU (w.setCell p u) g t cs:=(Below.heap_setCell w p u g hp).trans h
theorem fU.below {B:Nat} (h:fU w g t cs) (hb:Below B w w') (hg:g<B):fU w' g t cs:=(hb.block g hg).trans h
theorem fU.grown {row:Option Nat} (h:fU w g t cs) (hb:w.grownBy w' row) (hg:some g≠row):fU w' g t cs:=(hb.block g h.lt hg).trans h
end
theorem below_drewN {B:Nat} {a w:World} (h:Below B a w) (n:Nat):Below B a (w.drewN n):=⟨h.os,h.tape,h.output,h.size,h.block⟩
theorem Dy (w:World) (g i:Nat) (u:Value):w.grownBy (w.setCell ⟨g,i,none⟩ u) (some g):=
 ⟨rfl,rfl,rfl,by simp[World.setCell],fun k _ hne=>Below.heap_setCell _ _ _ _ (fun e=>hne (by rw[e]))⟩
theorem grown_drewN {a w:World} {row:Option Nat} (h:a.grownBy w row) (n:Nat):a.grownBy (w.drewN n) row:=⟨h.os,h.tape,h.output,h.size,h.block⟩
def Same (w' w:World):Prop:=w'.heap=w.heap∧w'.os=w.os∧w'.tape=w.tape∧w'.output=w.output
theorem Same.blk {w w':World} (h:Same w' w) {g:Nat} {t:TypeId} {cs:Array Value} (k:fU w g t cs):fU w' g t cs:=by unfold fU at*;rw[h.1];exact k
theorem Same.grown {a w w':World} (h:Same w' w) {row:Option Nat} (k:a.grownBy w row):a.grownBy w' row:=
 ⟨h.2.1.trans k.os,h.2.2.1.trans k.tape,h.2.2.2.trans k.output,by rw[h.1];exact k.size,fun i hi hn=>by rw[h.1];exact k.block i hi hn⟩
theorem Ro {a w:World} {g:Nat} (h:a.grownBy w (some g)) (i:Nat) (u:Value):a.grownBy (w.setCell ⟨g,i,none⟩ u) (some g):=
 h.trans (Dy w g i u)
def bit (a k:Nat):Nat:=a/2^k%2
def ints (xs:List Int):List Value:=xs.map (.int .i64)
@[simp] theorem abq (xs : List Int) : (ints xs).length = xs.length := by simp [ints]
theorem oJ (xs ys:List Int):ints (xs++ys)=ints xs++ints ys:=by simp[ints]
theorem gG (xs:List Int):∀u∈ints xs,u.oneCell'=true:=ints_oneCell .i64 xs
structure bJ (w:World) (B size:Nat) (A:Option Addr) (n c:Nat) (vs:List Value):Prop where
 len:vs.length=n*size
 cap:n≤c
 dw:c≤maxLen
 at_:0<n→∃b off,A=some ⟨b,off,none⟩∧b<B∧∀i v,vs[i]? =some v→w.cell? ⟨b,off+i,none⟩=some v
theorem jd.row {w:World} {B n c:Nat} {A:Option Addr} {xs:List Int} (h:jd .i64 w B A n c xs):bJ w B 1 A n c (ints xs):=
 ⟨by simp[h.len],h.cap,h.dw,fun hn=>by
  obtain⟨b,off,e,hb,hc⟩:=h.at_ hn;refine⟨b,off,e,hb,fun i v hv=>?_⟩
  unfold ints at hv
  rw[List.getElem?_map] at hv;obtain⟨x,hx,rfl⟩:=Option.map_eq_some_iff.1 hv
  exact hc i x hx⟩
theorem bJ.new (w:World) (cs:List Value) (t:TypeId) (size n:Nat) (hl:cs.length=n*size) (hn:n≤maxLen):bJ (w.alloc (.cells cs.toArray t)) (w.heap.size+1) size (some ⟨w.heap.size,0,none⟩) n n cs:=
 ⟨hl,aA _,hn,fun _=>⟨w.heap.size,0,rfl,by omega,fun i v hv=>by
  rw[Nat.zero_add,(fU.new w t cs.toArray).cell i];simpa using hv⟩⟩
structure qE (P:Program) (t e:TypeId) (z:Value) (size bytes:Nat):Prop where
 ht:P.underlying t=some (.slice e)
 hi:∃i,P.info? e=some i∧i.zero=some z∧i.size=size∧i.bytes=bytes
 hzs:z.cells.size=size
 hsz:0<size
theorem cZ {P:Program} {t e:TypeId} {z:Value} {size bytes:Nat} (E:qE P t e z size bytes) {w:World} {ops:Array Oper} {rest:List Oper} {o:Oper} {a:Act} {Q:Exit→Act→World→Prop} (hgd:o.guard=none) (s x:Operand)
  (ho:o.op= .call { callee:=.builtin .append,args:=#[s,x],argTypes:=#[t,t] })
  (base:Nat) (v:Value) (n:Nat) (xs:List Value) (hs:a.eval s=v) (hown:w.ownsRow base e size v n xs)
  (B:Nat) (A:Option Addr) (m c:Nat) (news:List Value) (hx:a.eval x= .slice A m c) (hr:bJ w B size A m c news) (h1:∀u∈news,u.oneCell'=true)
  (hbytes:(n+m)*bytes≤140737488355328) (h63:n+m≤140737488355328) (hbase:base≤w.heap.size)
  (h:∀v' w',w'.ownsRow base e size v' (n+m) (xs++news)→w.grownBy w' v.ownBlock→(v'.ownBlock=v.ownBlock∨v'.ownBlock=some w.heap.size)→wpList P ops Q rest (a.put o.dst v') w'):wpList P ops Q (o::rest) a w:=by
 obtain⟨i,hi,hz,hsize,hby⟩:=E.hi
 by_cases hm:m=0
 ·subst hm;obtain rfl:news=[]:=List.eq_nil_of_length_eq_zero (by simpa using hr.len)
  have key:(Builtin.append_ #[t,t] o.type #[v,.slice A 0 c]).run P w= .ok v w:=by
   rcases hown.2 with⟨rfl,rfl⟩ | ⟨g,cap,cur,rfl,_,_,hnc,_⟩
   ·cases A<;>simp[Builtin.append_,run_underlying E.ht,sizeOf,typeInfo,hi,Builtin.lenOf,Builtin.firstCells,loadCells,loadCellsFrom]
   ·cases A<;>simp[Builtin.append_,run_underlying E.ht,sizeOf,typeInfo,hi,Builtin.lenOf,Builtin.firstCells,hnc,storeCells,loadCells,loadCellsFrom]
  refine wpList_plain hgd fun K hK=>?_
  unfold Oper.wp execOp
  simp only[ho,resolve,invoke,builtin,Sem.run_bind,Sem.run_pure,Result.andThen_ok,List.map_toArray,List.map_cons,List.map_nil,hs,hx,key];exact hK _ _ (h v w (by simpa using hown) (World.grownBy.refl w _) (.inl rfl))
 ·obtain⟨b,off,rfl,hb,hc⟩:=hr.at_ (by omega)
  exact wpList_append_own_at w hgd s x t ho base e i z size bytes E.ht hi hz hsize hby E.hzs E.hsz v n xs hs hown _ m c news hx hr.len (fun j u hu=>by rw[Addr.add_lit];exact hc j u hu) h1
   (by unfold maxLen;omega) hbytes hbase fun v' w' h2 h3 _ h5=>h v' w' h2 h3 h5
theorem qY {w:World} {base base':Nat} {e:TypeId} {size n:Nat} {v:Value} {xs:List Value} (h:w.ownsRow base e size v n xs) (hb:base'≤base):w.ownsRow base' e size v n xs:=by
 refine⟨h.1,?_⟩
 rcases h.2 with h | ⟨g,cap,cur,hv,hg,r⟩
 ·exact .inl h
 ·exact .inr ⟨g,cap,cur,hv,by omega,r⟩
theorem dR {w:World} {base:Nat} {e:TypeId} {size n:Nat} {v:Value} {xs:List Value} (h:w.ownsRow base e size v n xs):∃A c,v= .slice A n c:=by
 rcases h.2 with⟨rfl,rfl⟩ | ⟨g,cap,cur,rfl,_⟩
 ·exact⟨_,_,rfl⟩
 ·exact⟨_,_,rfl⟩
theorem adw {w w1:World} {a:Array Value} {ta:TypeId} (hb:Below (w.heap.size+1) (w.alloc (.cells a ta)) w1):fU w1 w.heap.size ta a:=(fU.new w ta a).below hb (by omega)
theorem iR:qE Tryz.prog 23 3 (.int .i64 0) 1 8:=⟨Tryz.underlying23,info_parts (by kernel_rfl),rfl,by omega⟩
structure au where
 need:List Int
 on:Int
 off:Int
 flip:Int
structure aB where
 start:Int
 goal:List Int
 ay:List au
structure aG where
 order:aB
 done:List Int
 state:Int
structure iP where
 kind:Int
 number:Int
theorem au.ext' {a b:au} (h1:a.need=b.need) (h2:a.on=b.on) (h3:a.off=b.off) (h4:a.flip=b.flip):a=b:=by cases a;cases b;simp_all
theorem aB.ext' {a b:aB} (h1:a.start=b.start) (h2:a.goal=b.goal) (h3:a.ay=b.ay):a=b:=by cases a;cases b;simp_all
theorem aG.ext' {a b:aG} (h1:a.order=b.order) (h2:a.done=b.done) (h3:a.state=b.state):a=b:=by cases a;cases b;simp_all
instance : DecidableEq au := fun a b => decidable_of_iff (a.need = b.need ∧ a.on = b.on ∧ a.off = b.off ∧ a.flip = b.flip) ⟨fun ⟨h1, h2, h3, h4⟩ => au.ext' h1 h2 h3 h4, fun h => by subst h; exact ⟨rfl, rfl, rfl, rfl⟩⟩
instance : DecidableEq aB := fun a b => decidable_of_iff (a.start = b.start ∧ a.goal = b.goal ∧ a.ay = b.ay) ⟨fun ⟨h1, h2, h3⟩ => aB.ext' h1 h2 h3, fun h => by subst h; exact ⟨rfl, rfl, rfl⟩⟩
instance : DecidableEq aG := fun a b => decidable_of_iff (a.order = b.order ∧ a.done = b.done ∧ a.state = b.state) ⟨fun ⟨h1, h2, h3⟩ => aG.ext' h1 h2 h3, fun h => by subst h; exact ⟨rfl, rfl, rfl⟩⟩
def iF (d:Nat) (x:Int):Option Nat:=
 if x<0∨9<x then none else if x≤6 then some (d+1) else if x=7 then(if 1≤d then some d else none) else if 2≤d then some (d-1) else none
def jC:Nat→List Int→Option Nat
 |d,[]=>some d
 |d,x::xs=>(iF d x).bind fun d'=>jC d' xs
def mV:Nat→Nat→List Int→Nat
 |_,m,[]=>m
 |d,m,x::xs=>mV ((iF d x).getD 0) (max m ((iF d x).getD 0)) xs
def codeOk (xs:List Int):Bool:=decide (1≤xs.length∧xs.length≤40)&&jC 0 xs == some 1
def jv (xs:List Int):Int:=if codeOk xs then(mV 0 0 xs:Nat) else -1
theorem uH (d:Nat) (xs ys:List Int):jC d (xs++ys)=(jC d xs).bind fun d'=>jC d' ys:=by
 induction xs generalizing d with
 |nil=>rfl
 |cons x xs ih=>
  simp only[List.cons_append,jC]
  cases iF d x with
  |none=>rfl
  |some d'=>simp[ih]
theorem KP (d m:Nat) (xs ys:List Int) (d':Nat) (h:jC d xs=some d'):mV d m (xs++ys)=mV d' (mV d m xs) ys:=by
 induction xs generalizing d m with
 |nil=>simp only[jC,Option.some.injEq] at h;subst h;rfl
 |cons x xs ih=>
  simp only[jC] at h
  cases hs:iF d x with
  |none=>rw[hs] at h;cases h
  |some e=>
   rw[hs] at h;simp only[List.cons_append,mV,hs,Option.getD_some];exact ih _ _ (by simpa using h)
theorem qZ (xs:List Int) (k:Nat) (x:Int) (hx:xs[k]? =some x) (d:Nat) (h:jC 0 (xs.take k)=some d):jC 0 (xs.take (k+1))=iF d x∧(∀d',iF d x=some d'→mV 0 0 (xs.take (k+1))=max (mV 0 0 (xs.take k)) d'):=by
 obtain⟨hk,he⟩:=bI.1 hx;rw[List.take_succ_eq_append_getElem hk,he];refine⟨?_,fun d' hd=>?_⟩
 ·rw[uH,h];simp only[Option.bind_some,jC]
  cases iF d x<;>rfl
 ·rw[KP _ _ _ _ _ h]
  simp[mV,hd]
theorem KO (xs:List Int) (k:Nat) (x:Int) (hx:xs[k]? =some x) (d:Nat) (h:jC 0 (xs.take k)=some d) (hs:iF d x=none):codeOk xs=false:=by
 obtain⟨hk,he⟩:=bI.1 hx
 have:jC 0 xs=none:=by
  conv=>lhs;rw[←List.take_append_drop k xs]
  rw[uH,h,List.drop_eq_getElem_cons hk,he]
  simp[jC,hs]
 unfold codeOk
 rw[this];simp
theorem KQ (d:Nat) (x:Int) (d':Nat) (h:iF d x=some d'):d'≤d+1:=by
 unfold iF at h
 split at h
 ·cases h
 ·split at h
  ·cases h;omega
  ·split at h
   ·split at h<;>cases h;omega
   ·split at h<;>cases h;omega
theorem WS (d:Nat) (xs:List Int) (d':Nat) (h:jC d xs=some d'):d'≤d+xs.length:=by
 induction xs generalizing d with
 |nil=>simp only[jC,Option.some.injEq] at h;subst h;simp
 |cons x xs ih=>
  simp only[jC] at h
  cases hs:iF d x with
  |none=>rw[hs] at h;cases h
  |some e=>
   rw[hs] at h;have h1:=ih e (by simpa using h);have h2:=KQ _ _ _ hs;simp only[bM]
   omega
theorem WT (d m:Nat) (xs:List Int):mV d m xs≤max m (d+xs.length):=by
 induction xs generalizing d m with
 |nil=>simp only[mV,List.length_nil];omega
 |cons x xs ih=>
  simp only[mV,bM]
  cases hs:iF d x with
  |none=>simp only[Option.getD_none];have:=ih 0 (max m 0);omega
  |some e=>simp only[Option.getD_some];have:=ih e (max m e);have:=KQ _ _ _ hs;omega
theorem Rn (d m:Nat) (xs:List Int) (e:Nat) (h:jC d xs=some e) (hne:xs≠[]):e≤mV d m xs:=by
 induction xs generalizing d m with
 |nil=>exact absurd rfl hne
 |cons x xs ih=>
  simp only[jC] at h
  cases hs:iF d x with
  |none=>rw[hs] at h;cases h
  |some d'=>
   rw[hs] at h;have h:jC d' xs=some e:=by simpa using h
   simp only[mV,hs,Option.getD_some]
   by_cases hx:xs=[]
   ·subst hx;simp only[jC,Option.some.injEq] at h;subst h;simp only[mV];omega
   ·exact ih _ _ h hx
theorem jg (xs:List Int):codeOk xs=true↔1≤xs.length∧xs.length≤40∧jC 0 xs=some 1:=by
 unfold codeOk;simp[and_assoc]
theorem mQ (xs:List Int):(codeOk xs=true→1≤jv xs∧jv xs≤40)∧(codeOk xs=false→jv xs= -1):=by
 unfold jv
 refine⟨fun h=>?_,fun h=>by rw[h];rfl⟩;obtain⟨h1,h2,h3⟩:=(jg xs).1 h;rw[h,if_pos rfl];have a:=Rn 0 0 xs 1 h3 (by intro e;subst e;simp at h1);have b:=WT 0 0 xs
 omega
theorem AV (xs:List Int) (h:¬(1≤xs.length∧xs.length≤40)):codeOk xs=false:=by unfold codeOk;rw[decide_eq_false h];simp
theorem Dx (xs:List Int) (d:Nat) (h:jC 0 xs=some d) (hd:d≠1):codeOk xs=false:=by
 unfold codeOk;rw[h];simp[hd]
theorem AU (xs:List Int) (hl:1≤xs.length∧xs.length≤40) (h:jC 0 xs=some 1):codeOk xs=true:=by
 unfold codeOk;rw[h,decide_eq_true hl];rfl
theorem zH (xs:List Int) (h:codeOk xs=true) (k:Nat) (hk:k≤xs.length):∃d,jC 0 (xs.take k)=some d∧d≤k∧(∀x,xs[k]? =some x→∃d',iF d x=some d'):=by
 obtain⟨h1,h2,h3⟩:=(jg xs).1 h;have hs:jC 0 (xs.take k++xs.drop k)=some 1:=by rw[List.take_append_drop];exact h3
 rw[uH] at hs
 cases hd:jC 0 (xs.take k) with
 |none=>rw[hd] at hs;cases hs
 |some d=>
  refine⟨d,rfl,by have:=WS _ _ _ hd;simp at this;omega,fun x hx=>?_⟩;rw[hd] at hs;obtain⟨hlt,he⟩:=bI.1 hx;rw[List.drop_eq_getElem_cons hlt,he] at hs;simp only[Option.bind_some,jC] at hs
  cases hq:iF d x with
  |none=>rw[hq] at hs;cases hs
  |some d'=>exact⟨d',rfl⟩
def iE (s:Nat) (st:List Bool) (x:Int):List Bool:=
 if x=5 then true::st
 else if x=6 then false::st
 else if x=7 then(match st with | a::r=>(!a)::r | []=>[])
 else if x=8 then(match st with | a::b::r=>(b&&a)::r | _=>[])
 else if x=9 then(match st with | a::b::r=>(b||a)::r | _=>[])
 else(bit s x.toNat == 1)::st
def qF (s:Nat) (st:List Bool) (xs:List Int):List Bool:=xs.foldl (iE s) st
def aH (xs:List Int) (s:Nat):Bool:=(qF s [] xs).headD false
theorem yC (s:Nat) (st:List Bool) (x:Int) (d':Nat) (h:iF st.length x=some d'):(iE s st x).length=d':=by
 unfold iF at h
 unfold iE
 split at h
 ·cases h
 ·rename_i hr
  split at h
  ·cases h
   by_cases h5:x=5
   ·rw[if_pos h5];rfl
   ·by_cases h6:x=6
    ·rw[if_neg h5,if_pos h6];rfl
    ·rw[if_neg h5,if_neg h6,if_neg (by omega),if_neg (by omega),if_neg (by omega)];rfl
  ·rw[if_neg (by omega),if_neg (by omega)]
   split at h
   ·rename_i h7;rw[if_pos h7]
    split at h
    ·cases h
     cases st with
     |nil=>simp at*
     |cons a r=>rfl
    ·cases h
   ·rename_i h7;rw[if_neg h7]
    split at h
    ·cases h
     rename_i h2
     match st,h2 with
     |a::b::r,_=>
      by_cases h8:x=8
      ·rw[if_pos h8];simp
      ·rw[if_neg h8,if_pos (by omega)];simp
    ·cases h
theorem yD (s:Nat) (xs:List Int) (k:Nat) (x:Int) (hx:xs[k]? =some x):qF s [] (xs.take (k+1))=iE s (qF s [] (xs.take k)) x:=by
 obtain⟨hk,he⟩:=bI.1 hx;rw[List.take_succ_eq_append_getElem hk,he]
 simp[qF,List.foldl_append]
end Go.Proofs.YtkmcengmglgdeaaGreatDoor
