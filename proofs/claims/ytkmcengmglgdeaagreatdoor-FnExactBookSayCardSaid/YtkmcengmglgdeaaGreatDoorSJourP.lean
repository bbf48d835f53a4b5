/- Joined texts: JourP, JourW, NumsP, NumL, Under, ErrAs. -/
import Derived.Test.YtkmcengmglgdeaaGreatDoorSActR
import Derived.Test.YtkmcengmglgdeaaGreatDoorSBuilder
import Derived.Test.YtkmcengmglgdeaaGreatDoorSDraw
import Derived.Test.YtkmcengmglgdeaaGreatDoorSBack
import Derived.LaidEql
import Derived.Stop.Asserts
import Derived.RowKitTokens

namespace Go.Proofs.YtkmcengmglgdeaaGreatDoor
set_option linter.unusedVariables false
set_option linter.unusedSimpArgs false
set_option maxRecDepth 100000
set_option maxHeartbeats 8000000
def aT (a:iC):List UInt8:=ni a.kind a.number
def aL (a:iC):List UInt8:=aT a++[10]
def jT (aa:List iC):List UInt8:=if aa.all (fun a=>aT a != [])=true then aa.flatMap aL else []
def dP (aa:List iC):List (Int×Int):=aa.map fun a=>(a.kind,a.number)
def rJ (s:List UInt8):List iC:=dL (KN [] s).1
def rN (s:List UInt8):Nat:=(KN [] s).2
open Go.ChangeShapes Go.WideShapes Go.ChangeAt Go.RowKit
theorem PZ.later {B b:Nat} {l:List UInt8} {w w':World} (h:PZ B b l w) (hb:Below w.heap.size w w'):PZ B b l w':=by
 rcases h with h | h
 ·refine .inl ?_;obtain⟨hB,v,hbk,hown,hne⟩:=h;have hlt:b<w.heap.size:=(Array.getElem?_eq_some_iff.1 hbk).1;exact⟨hB,v,(hb.block b hlt).trans hbk,kC hown fun k hk=>hb.block k (hown.lt k hk).2,hne⟩
 ·refine .inr ?_;obtain⟨hB,v,hbk,hown,hne⟩:=h;have hlt:b<w.heap.size:=(Array.getElem?_eq_some_iff.1 hbk).1;exact⟨hB,v,(hb.block b hlt).trans hbk,kC hown fun k hk=>hb.block k (hown.lt k hk).2,hne⟩
def xv (xs:List Int) (s:Nat):Int:=xs.getD s 0
def numRow (t:aB) (xs:List Int) (s:Nat):Bool:=
 decide (0≤xv xs s∧xv xs s≤40)&&(!(aH t.goal s)||xv xs s == 0)&&t.ax.all fun d=>(aX d s).all fun s'=>decide (xv xs s-1≤xv xs s')
def aag (t:aB) (xs:List Int):Bool:=aK t&&decide (xs.length=32)&&(List.range 32).all (numRow t xs)
structure adM (t:aB) (xs:List Int):Prop where
 ok:aK t=true
 len:xs.length=32
 bd:∀s,s<32→0≤xv xs s∧xv xs s≤40
 goal:∀s,s<32→aH t.goal s=true→xv xs s=0
 step:∀s,s<32→∀d∈t.ax,∀s',aX d s=some s'→xv xs s-1≤xv xs s'
def adN (xs:List Int):List Int:=xs.map fun x=>if x<0 then 40 else x
def acA (t:aB):List Int:=if aK t then adN ((List.range 32).map (iQ t.ax (aH t.goal))) else []
def ab6 (t:aB) (xs:List Int) (s:Nat):Bool:=
 decide (0≤Lh t.ax (only t.start.toNat) s)&&(decide (iQ t.ax (aH t.goal) t.start.toNat<0)&&decide (xv xs s<40)||decide (Lh t.ax (only t.start.toNat) s+xv xs s<iQ t.ax (aH t.goal) t.start.toNat))
def ab7 (t:aB) (xs:List Int):Nat:=cnt (ab6 t xs) 32
def ab8 (t:aB) (xs:List Int):Int:=if aag t xs then(ab7 t xs:Int) else -1
def aev (ds:List aj) (xs:List Int) (s k:Nat):Prop:=∀(j:Nat) (d:aj) (q:Nat),j<k→ds[j]? =some d→aX d s=some q→xv xs s-1≤xv xs q
def adL (t:aB) (xs:List Int) (m:Nat):Prop:=∀s,s<m→numRow t xs s=true
def afx (x:Int):Int:=if x<0 then 40 else x
def PV (ds:List aj) (xs:List Int):Prop:=∀(k:Nat) (d:aj) (s q:Nat),ds[k]? =some d→s<32→aX d s=some q→xv xs s-1≤xv xs q
def acz (ds:List aj) (xs:List Int) (k m:Nat):Prop:=∀(j:Nat) (d:aj) (s q:Nat),ds[j]? =some d→s<32→(j<k∨j=k∧s<m)→aX d s=some q→xv xs s-1≤xv xs q
def ab5 (ds:List aj) (xs:List Int) (e:Ending):Prop:=PV ds xs∧e= .returned .nilIface∨¬PV ds xs∧∃a b:Nat,a<32∧b<32∧e= .returned (.iface 189 (.agg #[.int .i64 a,.int .i64 b]))
open Go.RowKit Go.Extern.Stop Go.Stop Go.Extern
theorem as_nil (t:Value) (w:World):
  Calls Tryz.prog 196 #[.nilIface,t] w fun e w'=>e= .returned (.bool false)∧w'=w:=by
 go_enter Tryz.func196,Tryz.ntmps196;go_wp2;go_ret;exact⟨rfl,rfl⟩
def dbP:Value:=.pointer (some ⟨7,192,none⟩)
def dbT:Value:=.pointer (some ⟨7,189,none⟩)
theorem OD (t:Addr) (w:World):(ReflectliteValue.unpack (.iface 192 (.pointer (some t)))).run Tryz.prog w
 = .ok (.agg #[.pointer (some ⟨7,192,none⟩),.pointer (some ⟨w.heap.size,0,none⟩),.int .u64 150]) (w.alloc (.cells #[.pointer (some t)] 192)):=by kernel_rfl
theorem Xe (a:Addr) (w:World):(ReflectliteValue.methodAny (ReflectliteValue.valueError "reflectlite.Value.Type" 0) (fun t _ _ _=>ReflectliteType.toType t) #[.agg #[.pointer (some ⟨7,192,none⟩),.pointer (some a),.int .u64 150]]).run Tryz.prog w
 = .ok (.iface 231 (.agg #[.pointer (some ⟨7,192,none⟩)])) w:=by kernel_rfl
theorem Xf (h:Value) (w:World):(Go.method 381 231 (.agg #[h]) "Kind").run Tryz.prog w= .ok (250,h) w:=by kernel_rfl
theorem Xg (w:World):((ReflectliteType.abiMethod fun t=>(fun a:Nat=>Value.int IntKind.u8 (a:Int))<$>Rtype.kind t) #[.pointer (some ⟨7,192,none⟩)]).run Tryz.prog w= .ok (.int .u8 22) w:=by kernel_rfl
theorem Xh (w:World):((ReflectliteType.abiMethod fun t=>(fun a:Nat=>Value.int IntKind.u8 (a:Int))<$>Rtype.kind t) #[.pointer (some ⟨7,189,none⟩)]).run Tryz.prog w= .ok (.int .u8 25) w:=by kernel_rfl
theorem Lp (z:Sem Value) (f:TypeId→Addr→Nat→Nat→Sem Value) (v:Value):
 ReflectliteValue.method z f #[v]=(do match←ReflectliteValue.parts v with | none=>z | some (t,a,fl)=>f t a fl (fl%32)):=rfl
theorem Lr (a:Addr) (w:World):(ReflectliteValue.parts (.agg #[.pointer (some ⟨7,192,none⟩),.pointer (some a),.int .u64 150])).run Tryz.prog w= .ok (some (192,a,150)) w:=by kernel_rfl
theorem Xi (a p:Addr) (W:World) (ha:W.cell? a=some (.pointer (some p))):
  (ReflectliteValue.method (ReflectliteValue.valueError "reflectlite.Value.IsNil" 0) ReflectliteValue.isNil #[.agg #[.pointer (some ⟨7,192,none⟩),.pointer (some a),.int .u64 150]]).run Tryz.prog W= .ok (.bool false) W:=by
 rw[Lp];simp only[Sem.run_bind,Lr,Result.andThen]
 simp[ReflectliteValue.isNil,loadVar,isAgg,underlying,Tryz.underlying192,ha,Result.andThen]
theorem Xj (h:Value) (w:World):(Go.method 381 231 (.agg #[h]) "Elem").run Tryz.prog w= .ok (264,.agg #[h]) w:=by kernel_rfl
theorem Xk (h:Value) (w:World):(Go.method 381 231 (.agg #[h]) "Implements").run Tryz.prog w= .ok (265,.agg #[h]) w:=by kernel_rfl
theorem Xl (h:Value) (w:World):(Go.method 381 231 (.agg #[h]) "AssignableTo").run Tryz.prog w= .ok (262,.agg #[h]) w:=by kernel_rfl
theorem Xm (w:World):(ReflectliteType.method ReflectliteType.elem #[.agg #[.pointer (some ⟨7,192,none⟩)]]).run Tryz.prog w= .ok (.iface 231 (.agg #[.pointer (some ⟨7,189,none⟩)])) w:=by kernel_rfl
theorem Xn (w:World):(ReflectliteType.relation "Implements" ReflectliteType.implements_ #[.agg #[.pointer (some ⟨7,189,none⟩)],.iface 231 (.agg #[.pointer (some ⟨7,119,none⟩)])]).run Tryz.prog w= .ok (.bool true) w:=by kernel_rfl
theorem RQ (v:Value) (w:World):(ReflectliteType.typeOf #[.iface 189 v]).run Tryz.prog w= .ok (.iface 231 (.agg #[.pointer (some ⟨7,189,none⟩)])) w:=by kernel_rfl
theorem Xo (w:World):(ReflectliteType.relation "AssignableTo" ReflectliteType.assignableTo #[.agg #[.pointer (some ⟨7,189,none⟩)],.iface 231 (.agg #[.pointer (some ⟨7,189,none⟩)])]).run Tryz.prog w= .ok (.bool true) w:=by kernel_rfl
theorem OE (x y:Int) (w:World):(ReflectliteValue.unpack (.iface 189 (.agg #[.int .i64 x,.int .i64 y]))).run Tryz.prog w
 = .ok (.agg #[.pointer (some ⟨7,189,none⟩),.pointer (some ⟨w.heap.size,0,none⟩),.int .u64 153]) (w.alloc (.cells #[.int .i64 x,.int .i64 y] 189)):=by kernel_rfl
theorem Vj (w:World):(Rtype.elem? 192).run Tryz.prog w= .ok (some 189) w:=by kernel_rfl
theorem ab2 (p:Addr) (w:World):(ReflectliteValue.mk 189 p ReflectliteValue.flagAddr).run Tryz.prog w= .ok (.agg #[.pointer (some ⟨7,189,none⟩),.pointer (some p),.int .u64 409]) w:=by kernel_rfl
theorem Xp (a p:Addr) (W:World) (ha:W.cell? a=some (.pointer (some p))):
  (ReflectliteValue.method (ReflectliteValue.valueError "reflectlite.Value.Elem" 0) ReflectliteValue.elem #[.agg #[.pointer (some ⟨7,192,none⟩),.pointer (some a),.int .u64 150]]).run Tryz.prog W
   = .ok (.agg #[.pointer (some ⟨7,189,none⟩),.pointer (some p),.int .u64 409]) W:=by
 rw[Lp];simp only[Sem.run_bind,Lr,Result.andThen]
 simp[ReflectliteValue.elem,loadVar,isAgg,underlying,Tryz.underlying192,ha,Result.andThen,Vj,ab2]
theorem ab3 (v x:Value):ReflectliteValue.set #[v,x]=(do
 let(some (dst,a,fl),some (src,b,_)):=(←ReflectliteValue.parts v,←ReflectliteValue.parts x)
  |unsupported (.noEntry "extern/(internal/reflectlite.Value).Set.zeroValue")
 if fl/ReflectliteValue.flagAddr%2 == 0 then unsupported (.noEntry "extern/(internal/reflectlite.Value).Set.unaddressable")
 let val←loadVar src b
 if←Rtype.directlyAssignable dst src then storeVar dst a val
 else if←Rtype.implements dst src then
  if(←Rtype.kind src) == 20 then
   match val with
   | .nilIface=>unsupported (.noEntry "extern/reflectlite: a nil value of one interface type handed on as a value of another")
   |_=>storeVar dst a val
  else storeVar dst a (.iface src val)
 else panicString ("reflectlite.Set: value of type " ++(←Rtype.spelt src)++ " is not assignable to type " ++(←Rtype.spelt dst))
 pure (.tuple #[])):=rfl
theorem Vk (a:Addr) (w:World):(ReflectliteValue.parts (.agg #[.pointer (some ⟨7,189,none⟩),.pointer (some a),.int .u64 409])).run Tryz.prog w= .ok (some (189,a,409)) w:=by kernel_rfl
theorem Vl (a:Addr) (w:World):(ReflectliteValue.parts (.agg #[.pointer (some ⟨7,189,none⟩),.pointer (some a),.int .u64 153])).run Tryz.prog w= .ok (some (189,a,153)) w:=by kernel_rfl
theorem Vm (w:World):(Rtype.directlyAssignable 189 189).run Tryz.prog w= .ok true w:=by kernel_rfl
theorem Vo (w:World):(sizeOf 189).run Tryz.prog w= .ok 2 w:=by kernel_rfl
theorem Xq (w:World):(isAgg 189).run Tryz.prog w= .ok true w:=by kernel_rfl
theorem ab4 (t b:Nat) (x y:Int) (o1 o2:Value) (W:World) (hb:W.cell? ⟨b,0,none⟩=some (.int .i64 x)) (hb1:W.cell? ⟨b,1,none⟩=some (.int .i64 y)) (ht:W.cell? ⟨t,0,none⟩=some o1) (hf:W.frozen? ⟨t,0,none⟩=false)
  (ht1:(W.setCell ⟨t,0,none⟩ (.int .i64 x)).cell? ⟨t,1,none⟩=some o2) (hf1:(W.setCell ⟨t,0,none⟩ (.int .i64 x)).frozen? ⟨t,1,none⟩=false):
  (ReflectliteValue.set #[.agg #[.pointer (some ⟨7,189,none⟩),.pointer (some ⟨t,0,none⟩),.int .u64 409],.agg #[.pointer (some ⟨7,189,none⟩),.pointer (some ⟨b,0,none⟩),.int .u64 153]]).run Tryz.prog W
   = .ok (.tuple #[]) ((W.setCell ⟨t,0,none⟩ (.int .i64 x)).setCell ⟨t,1,none⟩ (.int .i64 y)):=by
 have hl:(loadVar 189 ⟨b,0,none⟩).run Tryz.prog W= .ok (.agg #[.int .i64 x,.int .i64 y]) W:=by
  simp[loadVar,Xq,Vo,Result.andThen,loadCells,loadCellsFrom,Addr.add,hb,hb1]
 have hs:(storeVar 189 ⟨t,0,none⟩ (.agg #[.int .i64 x,.int .i64 y])).run Tryz.prog W= .ok () ((W.setCell ⟨t,0,none⟩ (.int .i64 x)).setCell ⟨t,1,none⟩ (.int .i64 y)):=by
  simp[storeVar,Vo,Result.andThen,storeCells,Addr.add,Value.cells]
  rw[run_store Tryz.prog W ⟨t,0,none⟩ _ _ (by rfl)];simp only[ht,hf]
  simp[Result.andThen]
  rw[run_store Tryz.prog _ ⟨t,1,none⟩ _ _ (by rfl)];simp only[ht1,hf1]
  simp
 rw[ab3];simp only[Sem.run_bind,Vk,Vl,Result.andThen]
 simp[ReflectliteValue.flagAddr,hl,Vm,hs,Result.andThen]
theorem as_hit (x y:Int) (t:Nat) (o1 o2:Value) (w:World) (hg:w.cell? ⟨1,0,none⟩=some (.iface 231 (.agg #[.pointer (some ⟨7,119,none⟩)]))) (ht0:w.cell? ⟨t,0,none⟩=some o1) (ht1:w.cell? ⟨t,1,none⟩=some o2) (hf0:w.frozen? ⟨t,0,none⟩=false) (hf1:w.frozen? ⟨t,1,none⟩=false):
  Calls Tryz.prog 196 #[.iface 189 (.agg #[.int .i64 x,.int .i64 y]),.iface 192 (.pointer (some ⟨t,0,none⟩))] w fun ev w'=>ev= .returned (.bool true)∧w'=(((((w.alloc (.cells #[.pointer (some ⟨t,0,none⟩)] 192)).alloc (.cells #[.pointer (some ⟨7,192,none⟩),.pointer (some ⟨w.heap.size,0,none⟩),.int .u64 150] 213)).alloc (.cells #[.pointer (some ⟨7,192,none⟩),.pointer (some ⟨w.heap.size,0,none⟩),.int .u64 150] 213)).alloc (.cells #[.int .i64 x,.int .i64 y] 189)).setCell ⟨t,0,none⟩ (.int .i64 x)).setCell ⟨t,1,none⟩ (.int .i64 y):=by
 have h6:=@run_callFunc_extern Tryz.prog 213 _ (fun args=>ReflectliteValue.unpack (args.getD 0 (.tuple #[]))) Tryz.func213 (by kernel_rfl) (by kernel_rfl) (by kernel_rfl) (by kernel_rfl);have h7:=@run_callFunc_extern Tryz.prog 214 _ (ReflectliteValue.methodAny (ReflectliteValue.valueError "reflectlite.Value.Type" 0) (fun t _ _ _=>ReflectliteType.toType t)) Tryz.func214 (by kernel_rfl) (by kernel_rfl) (by kernel_rfl) (by kernel_rfl);have h8:=@run_callFunc_extern Tryz.prog 215 _ (ReflectliteValue.method (ReflectliteValue.valueError "reflectlite.Value.IsNil" 0) ReflectliteValue.isNil) Tryz.func215 (by kernel_rfl) (by kernel_rfl) (by kernel_rfl) (by kernel_rfl);have h27:=@run_callFunc_extern Tryz.prog 250 _ (ReflectliteType.abiMethod fun t=>do pure (.int .u8 (←Rtype.kind t))) Tryz.func250 (by kernel_rfl) (by kernel_rfl) (by kernel_rfl) (by kernel_rfl);have h37:=@run_callFunc_extern Tryz.prog 264 _ (ReflectliteType.method ReflectliteType.elem) Tryz.func264 (by kernel_rfl) (by kernel_rfl) (by kernel_rfl) (by kernel_rfl);have h38:=@run_callFunc_extern Tryz.prog 265 _ (ReflectliteType.relation "Implements" ReflectliteType.implements_) Tryz.func265 (by kernel_rfl) (by kernel_rfl) (by kernel_rfl) (by kernel_rfl);have h10:=@run_callFunc_extern Tryz.prog 227 _ ReflectliteType.typeOf Tryz.func227 (by kernel_rfl) (by kernel_rfl) (by kernel_rfl) (by kernel_rfl);have h35:=@run_callFunc_extern Tryz.prog 262 _ (ReflectliteType.relation "AssignableTo" ReflectliteType.assignableTo) Tryz.func262 (by kernel_rfl) (by kernel_rfl) (by kernel_rfl) (by kernel_rfl);have h11:=@run_callFunc_extern Tryz.prog 228 _ (ReflectliteValue.method (ReflectliteValue.valueError "reflectlite.Value.Elem" 0) ReflectliteValue.elem) Tryz.func228 (by kernel_rfl) (by kernel_rfl) (by kernel_rfl) (by kernel_rfl);have h12:=@run_callFunc_extern Tryz.prog 229 _ ReflectliteValue.set Tryz.func229 (by kernel_rfl) (by kernel_rfl) (by kernel_rfl) (by kernel_rfl);have tO:=RQ;have mA:=Xl;have a25:=Xo;have v25:=OE;have f6:=OD;have f7:=Xe;have mK:=Xf;have mE:=Xj;have mI:=Xk;have k27:=Xg;have k25:=Xh;have e27:=Xm;have i25:=Xn;have n8:=Xi ⟨w.heap.size,0,none⟩ ⟨t,0,none⟩ ((w.alloc (.cells #[.pointer (some ⟨t,0,none⟩)] 192)).alloc (.cells #[.pointer (some ⟨7,192,none⟩),.pointer (some ⟨w.heap.size,0,none⟩),.int .u64 150] 213)) (by simp)
 have hlt:1<w.heap.size:=by
  rcases Nat.lt_or_ge 1 w.heap.size with h | h0
  ·exact h
  ·simp[World.cell?,Array.getElem?_eq_none h0] at hg
 have hg2:((w.alloc (.cells #[.pointer (some ⟨t,0,none⟩)] 192)).alloc (.cells #[.pointer (some ⟨7,192,none⟩),.pointer (some ⟨w.heap.size,0,none⟩),.int .u64 150] 213)).cell? ⟨1,0,none⟩=some (.iface 231 (.agg #[.pointer (some ⟨7,119,none⟩)])):=by
  rw[World.cell?_alloc_lt _ _ ⟨1,0,none⟩ (by simp;omega),World.cell?_alloc_lt _ _ ⟨1,0,none⟩ hlt];exact hg
 have htl:t<w.heap.size:=by
  rcases Nat.lt_or_ge t w.heap.size with h | h
  ·exact h
  ·simp[World.cell?,Array.getElem?_eq_none h] at ht0
 have el:=Xp ⟨w.heap.size,0,none⟩ ⟨t,0,none⟩ (((w.alloc (.cells #[.pointer (some ⟨t,0,none⟩)] 192)).alloc (.cells #[.pointer (some ⟨7,192,none⟩),.pointer (some ⟨w.heap.size,0,none⟩),.int .u64 150] 213)).alloc (.cells #[.pointer (some ⟨7,192,none⟩),.pointer (some ⟨w.heap.size,0,none⟩),.int .u64 150] 213)) (by rw[World.cell?_alloc_lt _ _ ⟨w.heap.size,0,none⟩ (by simp;omega)];simp)
 have st:=ab4 t (w.heap.size+1+1+1) x y o1 o2 ((((w.alloc (.cells #[.pointer (some ⟨t,0,none⟩)] 192)).alloc (.cells #[.pointer (some ⟨7,192,none⟩),.pointer (some ⟨w.heap.size,0,none⟩),.int .u64 150] 213)).alloc (.cells #[.pointer (some ⟨7,192,none⟩),.pointer (some ⟨w.heap.size,0,none⟩),.int .u64 150] 213)).alloc (.cells #[.int .i64 x,.int .i64 y] 189))
  (by rw[World.cell?_alloc_at _ _ _ _ (by simp)];rfl)
  (by rw[World.cell?_alloc_at _ _ _ _ (by simp)];rfl)
  (by rw[World.cell?_alloc_lt _ _ ⟨t,0,none⟩ (by simp;omega),World.cell?_alloc_lt _ _ ⟨t,0,none⟩ (by simp;omega),World.cell?_alloc_lt _ _ ⟨t,0,none⟩ (by simp;omega),World.cell?_alloc_lt _ _ ⟨t,0,none⟩ htl];exact ht0)
  (by rw[World.frozen?_alloc_old _ _ ⟨t,0,none⟩ (by simp;omega),World.frozen?_alloc_old _ _ ⟨t,0,none⟩ (by simp;omega),World.frozen?_alloc_old _ _ ⟨t,0,none⟩ (by simp;omega),World.frozen?_alloc_old _ _ ⟨t,0,none⟩ (Nat.ne_of_lt htl)];exact hf0)
  (by rw[World.cell?_setCell_other _ ⟨t,0,none⟩ ⟨t,1,none⟩ _ (by simp),World.cell?_alloc_lt _ _ ⟨t,1,none⟩ (by simp;omega),World.cell?_alloc_lt _ _ ⟨t,1,none⟩ (by simp;omega),World.cell?_alloc_lt _ _ ⟨t,1,none⟩ (by simp;omega),World.cell?_alloc_lt _ _ ⟨t,1,none⟩ htl];exact ht1)
  (by rw[World.frozen?_setCell,World.frozen?_alloc_old _ _ ⟨t,1,none⟩ (by simp;omega),World.frozen?_alloc_old _ _ ⟨t,1,none⟩ (by simp;omega),World.frozen?_alloc_old _ _ ⟨t,1,none⟩ (by simp;omega),World.frozen?_alloc_old _ _ ⟨t,1,none⟩ (Nat.ne_of_lt htl)];exact hf1)
 go_enter Tryz.func196,Tryz.ntmps196;go_wp2;refine wp_loop_rounds 1 ?_;rw[rounds_succ];go_wp2;go_ret;exact⟨rfl,rfl⟩
def qV (w:World):Prop:=w.cell? ⟨1,0,none⟩=some (.iface 231 (.agg #[.pointer (some ⟨7,119,none⟩)]))
theorem qV.up {w w':World} (h:qV w) (hb:Below w.heap.size w w'):qV w':=by
 have hlt:1<w.heap.size:=by
  rcases Nat.lt_or_ge 1 w.heap.size with h1 | h0
  ·exact h1
  ·unfold qV at h;simp[World.cell?,Array.getElem?_eq_none h0] at h
 exact(hb.cell (p:=⟨1,0,none⟩) hlt).trans h
theorem OC (x y:Int) (t B:Nat) (o1 o2:Value) (w:World) (hg:qV w) (ht:iJ w t 189 #[o1,o2]) (hB:B≤t):
  Calls Tryz.prog 196 #[.iface 189 (.agg #[.int .i64 x,.int .i64 y]),.iface 192 (.pointer (some ⟨t,0,none⟩))] w fun ev w'=>ev= .returned (.bool true)∧Below B w w':=by
 have hl:=ht.lt;refine(as_hit x y t o1 o2 w hg (ht.cell 0) (ht.cell 1) (ht.frozen 0) (ht.frozen 1)).mono ?_;rintro e w' ⟨rfl,rfl⟩;refine⟨rfl,?_⟩;refine Below.setCell (Below.setCell (Below.alloc (Below.alloc (Below.alloc (Below.alloc (ai _ _) (by omega) _) (by simp;omega) _) (by simp;omega) _) (by simp;omega) _) hB _) hB _
end Go.Proofs.YtkmcengmglgdeaaGreatDoor
