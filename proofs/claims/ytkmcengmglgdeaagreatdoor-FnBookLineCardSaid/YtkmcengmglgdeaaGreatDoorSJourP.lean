/- Joined texts: JourP, JourW, NumsP, NumL, Under, ErrAs, Laid, SkipU, ReadP, LineA, CondP, SayP, SayQ, CondI. -/
import Derived.Test.YtkmcengmglgdeaaGreatDoorSActR
import Derived.Test.YtkmcengmglgdeaaGreatDoorSDrawB
import Derived.Test.YtkmcengmglgdeaaGreatDoorSFwd
import Derived.Test.YtkmcengmglgdeaaGreatDoorSPermD
import Derived.Test.YtkmcengmglgdeaaGreatDoorSBack
import Derived.Test.YtkmcengmglgdeaaGreatDoorSDraw
import Derived.LaidEql
import Derived.Stop.Asserts
import Derived.RowKitTokens
import Derived.Test.YtkmcengmglgdeaaGreatDoorRows
import Derived.ChangeVars
import Derived.LaidLaws
import Derived.LaidHandle
import Derived.LaidSub
import Derived.Test.YtkmcengmglgdeaaGreatDoorSDoI
import Derived.Test.YtkmcengmglgdeaaGreatDoorSBase
import Derived.Test.YtkmcengmglgdeaaGreatDoorSTDraw2
import Derived.Test.YtkmcengmglgdeaaGreatDoorSActT

namespace Go.Proofs.YtkmcengmglgdeaaGreatDoor
set_option linter.unusedVariables false
set_option linter.unusedSimpArgs false
set_option maxRecDepth 100000
set_option maxHeartbeats 8000000
def aT (a:iP):List UInt8:=lS a.kind a.number
def aL (a:iP):List UInt8:=aT a++[10]
def jT (aa:List iP):List UInt8:=if aa.all (fun a=>aT a != [])=true then aa.flatMap aL else []
def dP (aa:List iP):List (Int×Int):=aa.map fun a=>(a.kind,a.number)
def rJ (s:List UInt8):List iP:=dL (MF [] s).1
def rN (s:List UInt8):Nat:=(MF [] s).2
open Go.ChangeShapes Go.WideShapes Go.ChangeAt Go.RowKit
theorem QS.later {B b:Nat} {l:List UInt8} {w w':World} (h:QS B b l w) (hb:Below w.heap.size w w'):QS B b l w':=by
 rcases h with h | h
 ·refine .inl ?_;obtain⟨hB,v,hbk,hown,hne⟩:=h;have hlt:b<w.heap.size:=(Array.getElem?_eq_some_iff.1 hbk).1;exact⟨hB,v,(hb.block b hlt).trans hbk,mM hown fun k hk=>hb.block k (hown.lt k hk).2,hne⟩
 ·refine .inr ?_;obtain⟨hB,v,hbk,hown,hne⟩:=h;have hlt:b<w.heap.size:=(Array.getElem?_eq_some_iff.1 hbk).1;exact⟨hB,v,(hb.block b hlt).trans hbk,mM hown fun k hk=>hb.block k (hown.lt k hk).2,hne⟩
def xv (xs:List Int) (s:Nat):Int:=xs.getD s 0
def numRow (t:aB) (xs:List Int) (s:Nat):Bool:=
 decide (0≤xv xs s∧xv xs s≤40)&&(!(aH t.goal s)||xv xs s == 0)&&t.ay.all fun d=>(bD d s).all fun s'=>decide (xv xs s-1≤xv xs s')
def aaT (t:aB) (xs:List Int):Bool:=aK t&&decide (xs.length=32)&&(List.range 32).all (numRow t xs)
structure aeu (t:aB) (xs:List Int):Prop where
 ok:aK t=true
 len:xs.length=32
 bd:∀s,s<32→0≤xv xs s∧xv xs s≤40
 goal:∀s,s<32→aH t.goal s=true→xv xs s=0
 step:∀s,s<32→∀d∈t.ay,∀s',bD d s=some s'→xv xs s-1≤xv xs s'
def aev (xs:List Int):List Int:=xs.map fun x=>if x<0 then 40 else x
def adg (t:aB):List Int:=if aK t then aev ((List.range 32).map (jc t.ay (aH t.goal))) else []
def acU (t:aB) (xs:List Int) (s:Nat):Bool:=
 decide (0≤MS t.ay (only t.start.toNat) s)&&(decide (jc t.ay (aH t.goal) t.start.toNat<0)&&decide (xv xs s<40)||decide (MS t.ay (only t.start.toNat) s+xv xs s<jc t.ay (aH t.goal) t.start.toNat))
def acV (t:aB) (xs:List Int):Nat:=cnt (acU t xs) 32
def acW (t:aB) (xs:List Int):Int:=if aaT t xs then(acV t xs:Int) else -1
def aeS (ds:List au) (xs:List Int) (s k:Nat):Prop:=∀(j:Nat) (d:au) (q:Nat),j<k→ds[j]? =some d→bD d s=some q→xv xs s-1≤xv xs q
def aes (t:aB) (xs:List Int) (m:Nat):Prop:=∀s,s<m→numRow t xs s=true
def afZ (x:Int):Int:=if x<0 then 40 else x
def QL (ds:List au) (xs:List Int):Prop:=∀(k:Nat) (d:au) (s q:Nat),ds[k]? =some d→s<32→bD d s=some q→xv xs s-1≤xv xs q
def adf (ds:List au) (xs:List Int) (k m:Nat):Prop:=∀(j:Nat) (d:au) (s q:Nat),ds[j]? =some d→s<32→(j<k∨j=k∧s<m)→bD d s=some q→xv xs s-1≤xv xs q
def acT (ds:List au) (xs:List Int) (e:Ending):Prop:=QL ds xs∧e= .returned .nilIface∨¬QL ds xs∧∃a b:Nat,a<32∧b<32∧e= .returned (.iface 189 (.agg #[.int .i64 a,.int .i64 b]))
open Go.RowKit Go.Extern.Stop Go.Stop Go.Extern
theorem as_nil (t:Value) (w:World):
  Calls Tryz.prog 196 #[.nilIface,t] w fun e w'=>e= .returned (.bool false)∧w'=w:=by
 go_enter Tryz.func196,Tryz.ntmps196;go_wp2;go_ret;exact⟨rfl,rfl⟩
def dbP:Value:=.pointer (some ⟨7,192,none⟩)
def dbT:Value:=.pointer (some ⟨7,189,none⟩)
theorem PG (t:Addr) (w:World):(ReflectliteValue.unpack (.iface 192 (.pointer (some t)))).run Tryz.prog w
 = .ok (.agg #[.pointer (some ⟨7,192,none⟩),.pointer (some ⟨w.heap.size,0,none⟩),.int .u64 150]) (w.alloc (.cells #[.pointer (some t)] 192)):=by kernel_rfl
theorem XM (a:Addr) (w:World):(ReflectliteValue.methodAny (ReflectliteValue.valueError "reflectlite.Value.Type" 0) (fun t _ _ _=>ReflectliteType.toType t) #[.agg #[.pointer (some ⟨7,192,none⟩),.pointer (some a),.int .u64 150]]).run Tryz.prog w
 = .ok (.iface 231 (.agg #[.pointer (some ⟨7,192,none⟩)])) w:=by kernel_rfl
theorem XO (h:Value) (w:World):(Go.method 381 231 (.agg #[h]) "Kind").run Tryz.prog w= .ok (250,h) w:=by kernel_rfl
theorem XP (w:World):((ReflectliteType.abiMethod fun t=>(fun a:Nat=>Value.int IntKind.u8 (a:Int))<$>Rtype.kind t) #[.pointer (some ⟨7,192,none⟩)]).run Tryz.prog w= .ok (.int .u8 22) w:=by kernel_rfl
theorem XQ (w:World):((ReflectliteType.abiMethod fun t=>(fun a:Nat=>Value.int IntKind.u8 (a:Int))<$>Rtype.kind t) #[.pointer (some ⟨7,189,none⟩)]).run Tryz.prog w= .ok (.int .u8 25) w:=by kernel_rfl
theorem MZ (z:Sem Value) (f:TypeId→Addr→Nat→Nat→Sem Value) (v:Value):
 ReflectliteValue.method z f #[v]=(do match←ReflectliteValue.parts v with | none=>z | some (t,a,fl)=>f t a fl (fl%32)):=rfl
theorem Na (a:Addr) (w:World):(ReflectliteValue.parts (.agg #[.pointer (some ⟨7,192,none⟩),.pointer (some a),.int .u64 150])).run Tryz.prog w= .ok (some (192,a,150)) w:=by kernel_rfl
theorem XR (a p:Addr) (W:World) (ha:W.cell? a=some (.pointer (some p))):
  (ReflectliteValue.method (ReflectliteValue.valueError "reflectlite.Value.IsNil" 0) ReflectliteValue.isNil #[.agg #[.pointer (some ⟨7,192,none⟩),.pointer (some a),.int .u64 150]]).run Tryz.prog W= .ok (.bool false) W:=by
 rw[MZ];simp only[Sem.run_bind,Na,Result.andThen]
 simp[ReflectliteValue.isNil,loadVar,isAgg,underlying,Tryz.underlying192,ha,Result.andThen]
theorem XT (h:Value) (w:World):(Go.method 381 231 (.agg #[h]) "Elem").run Tryz.prog w= .ok (264,.agg #[h]) w:=by kernel_rfl
theorem XU (h:Value) (w:World):(Go.method 381 231 (.agg #[h]) "Implements").run Tryz.prog w= .ok (265,.agg #[h]) w:=by kernel_rfl
theorem XV (h:Value) (w:World):(Go.method 381 231 (.agg #[h]) "AssignableTo").run Tryz.prog w= .ok (262,.agg #[h]) w:=by kernel_rfl
theorem XW (w:World):(ReflectliteType.method ReflectliteType.elem #[.agg #[.pointer (some ⟨7,192,none⟩)]]).run Tryz.prog w= .ok (.iface 231 (.agg #[.pointer (some ⟨7,189,none⟩)])) w:=by kernel_rfl
theorem XY (w:World):(ReflectliteType.relation "Implements" ReflectliteType.implements_ #[.agg #[.pointer (some ⟨7,189,none⟩)],.iface 231 (.agg #[.pointer (some ⟨7,119,none⟩)])]).run Tryz.prog w= .ok (.bool true) w:=by kernel_rfl
theorem TI (v:Value) (w:World):(ReflectliteType.typeOf #[.iface 189 v]).run Tryz.prog w= .ok (.iface 231 (.agg #[.pointer (some ⟨7,189,none⟩)])) w:=by kernel_rfl
theorem XZ (w:World):(ReflectliteType.relation "AssignableTo" ReflectliteType.assignableTo #[.agg #[.pointer (some ⟨7,189,none⟩)],.iface 231 (.agg #[.pointer (some ⟨7,189,none⟩)])]).run Tryz.prog w= .ok (.bool true) w:=by kernel_rfl
theorem PI (x y:Int) (w:World):(ReflectliteValue.unpack (.iface 189 (.agg #[.int .i64 x,.int .i64 y]))).run Tryz.prog w
 = .ok (.agg #[.pointer (some ⟨7,189,none⟩),.pointer (some ⟨w.heap.size,0,none⟩),.int .u64 153]) (w.alloc (.cells #[.int .i64 x,.int .i64 y] 189)):=by kernel_rfl
theorem VX (w:World):(Rtype.elem? 192).run Tryz.prog w= .ok (some 189) w:=by kernel_rfl
theorem acQ (p:Addr) (w:World):(ReflectliteValue.mk 189 p ReflectliteValue.flagAddr).run Tryz.prog w= .ok (.agg #[.pointer (some ⟨7,189,none⟩),.pointer (some p),.int .u64 409]) w:=by kernel_rfl
theorem X4 (a p:Addr) (W:World) (ha:W.cell? a=some (.pointer (some p))):
  (ReflectliteValue.method (ReflectliteValue.valueError "reflectlite.Value.Elem" 0) ReflectliteValue.elem #[.agg #[.pointer (some ⟨7,192,none⟩),.pointer (some a),.int .u64 150]]).run Tryz.prog W
   = .ok (.agg #[.pointer (some ⟨7,189,none⟩),.pointer (some p),.int .u64 409]) W:=by
 rw[MZ];simp only[Sem.run_bind,Na,Result.andThen]
 simp[ReflectliteValue.elem,loadVar,isAgg,underlying,Tryz.underlying192,ha,Result.andThen,VX,acQ]
theorem acR (v x:Value):ReflectliteValue.set #[v,x]=(do
 let(some (dst,a,fl),some (src,b,_)):=(←ReflectliteValue.parts v,←ReflectliteValue.parts x)
  |unsupported (.noEntry "extern/(internal/reflectlite.Value).Set.zeroValue")
 if fl/ReflectliteValue.flagAddr%2 == 0 then unsupported (.noEntry "extern/(internal/reflectlite.Value).Set.unaddressable")
 let val←loadVar src b
 if←Rtype.directlyAssignable dst src then storeVar dst a val
 else if←Rtype.implements dst src then
  if(←Rtype.kind src) == 20 then
   match val with
   | .nilIface=>unsupported (.noEntry "extern/reflectlite: a nil value of one interface type handed on as a value of another")
   |_=>storeVar dst a val
  else storeVar dst a (.iface src val)
 else panicString ("reflectlite.Set: value of type " ++(←Rtype.spelt src)++ " is not assignable to type " ++(←Rtype.spelt dst))
 pure (.tuple #[])):=rfl
theorem VY (a:Addr) (w:World):(ReflectliteValue.parts (.agg #[.pointer (some ⟨7,189,none⟩),.pointer (some a),.int .u64 409])).run Tryz.prog w= .ok (some (189,a,409)) w:=by kernel_rfl
theorem VZ (a:Addr) (w:World):(ReflectliteValue.parts (.agg #[.pointer (some ⟨7,189,none⟩),.pointer (some a),.int .u64 153])).run Tryz.prog w= .ok (some (189,a,153)) w:=by kernel_rfl
theorem V3 (w:World):(Rtype.directlyAssignable 189 189).run Tryz.prog w= .ok true w:=by kernel_rfl
theorem V4 (w:World):(sizeOf 189).run Tryz.prog w= .ok 2 w:=by kernel_rfl
theorem X5 (w:World):(isAgg 189).run Tryz.prog w= .ok true w:=by kernel_rfl
theorem acS (t b:Nat) (x y:Int) (o1 o2:Value) (W:World) (hb:W.cell? ⟨b,0,none⟩=some (.int .i64 x)) (hb1:W.cell? ⟨b,1,none⟩=some (.int .i64 y)) (ht:W.cell? ⟨t,0,none⟩=some o1) (hf:W.frozen? ⟨t,0,none⟩=false)
  (ht1:(W.setCell ⟨t,0,none⟩ (.int .i64 x)).cell? ⟨t,1,none⟩=some o2) (hf1:(W.setCell ⟨t,0,none⟩ (.int .i64 x)).frozen? ⟨t,1,none⟩=false):
  (ReflectliteValue.set #[.agg #[.pointer (some ⟨7,189,none⟩),.pointer (some ⟨t,0,none⟩),.int .u64 409],.agg #[.pointer (some ⟨7,189,none⟩),.pointer (some ⟨b,0,none⟩),.int .u64 153]]).run Tryz.prog W
   = .ok (.tuple #[]) ((W.setCell ⟨t,0,none⟩ (.int .i64 x)).setCell ⟨t,1,none⟩ (.int .i64 y)):=by
 have hl:(loadVar 189 ⟨b,0,none⟩).run Tryz.prog W= .ok (.agg #[.int .i64 x,.int .i64 y]) W:=by
  simp[loadVar,X5,V4,Result.andThen,loadCells,loadCellsFrom,Addr.add,hb,hb1]
 have hs:(storeVar 189 ⟨t,0,none⟩ (.agg #[.int .i64 x,.int .i64 y])).run Tryz.prog W= .ok () ((W.setCell ⟨t,0,none⟩ (.int .i64 x)).setCell ⟨t,1,none⟩ (.int .i64 y)):=by
  simp[storeVar,V4,Result.andThen,storeCells,Addr.add,Value.cells]
  rw[run_store Tryz.prog W ⟨t,0,none⟩ _ _ (by rfl)];simp only[ht,hf]
  simp[Result.andThen]
  rw[run_store Tryz.prog _ ⟨t,1,none⟩ _ _ (by rfl)];simp only[ht1,hf1]
  simp
 rw[acR];simp only[Sem.run_bind,VY,VZ,Result.andThen]
 simp[ReflectliteValue.flagAddr,hl,V3,hs,Result.andThen]
theorem as_hit (x y:Int) (t:Nat) (o1 o2:Value) (w:World) (hg:w.cell? ⟨1,0,none⟩=some (.iface 231 (.agg #[.pointer (some ⟨7,119,none⟩)]))) (ht0:w.cell? ⟨t,0,none⟩=some o1) (ht1:w.cell? ⟨t,1,none⟩=some o2) (hf0:w.frozen? ⟨t,0,none⟩=false) (hf1:w.frozen? ⟨t,1,none⟩=false):
  Calls Tryz.prog 196 #[.iface 189 (.agg #[.int .i64 x,.int .i64 y]),.iface 192 (.pointer (some ⟨t,0,none⟩))] w fun ev w'=>ev= .returned (.bool true)∧w'=(((((w.alloc (.cells #[.pointer (some ⟨t,0,none⟩)] 192)).alloc (.cells #[.pointer (some ⟨7,192,none⟩),.pointer (some ⟨w.heap.size,0,none⟩),.int .u64 150] 213)).alloc (.cells #[.pointer (some ⟨7,192,none⟩),.pointer (some ⟨w.heap.size,0,none⟩),.int .u64 150] 213)).alloc (.cells #[.int .i64 x,.int .i64 y] 189)).setCell ⟨t,0,none⟩ (.int .i64 x)).setCell ⟨t,1,none⟩ (.int .i64 y):=by
 have h6:=@run_callFunc_extern Tryz.prog 213 _ (fun args=>ReflectliteValue.unpack (args.getD 0 (.tuple #[]))) Tryz.func213 (by kernel_rfl) (by kernel_rfl) (by kernel_rfl) (by kernel_rfl);have h7:=@run_callFunc_extern Tryz.prog 214 _ (ReflectliteValue.methodAny (ReflectliteValue.valueError "reflectlite.Value.Type" 0) (fun t _ _ _=>ReflectliteType.toType t)) Tryz.func214 (by kernel_rfl) (by kernel_rfl) (by kernel_rfl) (by kernel_rfl);have h8:=@run_callFunc_extern Tryz.prog 215 _ (ReflectliteValue.method (ReflectliteValue.valueError "reflectlite.Value.IsNil" 0) ReflectliteValue.isNil) Tryz.func215 (by kernel_rfl) (by kernel_rfl) (by kernel_rfl) (by kernel_rfl);have h27:=@run_callFunc_extern Tryz.prog 250 _ (ReflectliteType.abiMethod fun t=>do pure (.int .u8 (←Rtype.kind t))) Tryz.func250 (by kernel_rfl) (by kernel_rfl) (by kernel_rfl) (by kernel_rfl);have h37:=@run_callFunc_extern Tryz.prog 264 _ (ReflectliteType.method ReflectliteType.elem) Tryz.func264 (by kernel_rfl) (by kernel_rfl) (by kernel_rfl) (by kernel_rfl);have h38:=@run_callFunc_extern Tryz.prog 265 _ (ReflectliteType.relation "Implements" ReflectliteType.implements_) Tryz.func265 (by kernel_rfl) (by kernel_rfl) (by kernel_rfl) (by kernel_rfl);have h10:=@run_callFunc_extern Tryz.prog 227 _ ReflectliteType.typeOf Tryz.func227 (by kernel_rfl) (by kernel_rfl) (by kernel_rfl) (by kernel_rfl);have h35:=@run_callFunc_extern Tryz.prog 262 _ (ReflectliteType.relation "AssignableTo" ReflectliteType.assignableTo) Tryz.func262 (by kernel_rfl) (by kernel_rfl) (by kernel_rfl) (by kernel_rfl);have h11:=@run_callFunc_extern Tryz.prog 228 _ (ReflectliteValue.method (ReflectliteValue.valueError "reflectlite.Value.Elem" 0) ReflectliteValue.elem) Tryz.func228 (by kernel_rfl) (by kernel_rfl) (by kernel_rfl) (by kernel_rfl);have h12:=@run_callFunc_extern Tryz.prog 229 _ ReflectliteValue.set Tryz.func229 (by kernel_rfl) (by kernel_rfl) (by kernel_rfl) (by kernel_rfl);have tO:=TI;have mA:=XV;have a25:=XZ;have v25:=PI;have f6:=PG;have f7:=XM;have mK:=XO;have mE:=XT;have mI:=XU;have k27:=XP;have k25:=XQ;have e27:=XW;have i25:=XY;have n8:=XR ⟨w.heap.size,0,none⟩ ⟨t,0,none⟩ ((w.alloc (.cells #[.pointer (some ⟨t,0,none⟩)] 192)).alloc (.cells #[.pointer (some ⟨7,192,none⟩),.pointer (some ⟨w.heap.size,0,none⟩),.int .u64 150] 213)) (by simp)
 have hlt:1<w.heap.size:=by
  rcases Nat.lt_or_ge 1 w.heap.size with h | h0
  ·exact h
  ·simp[World.cell?,Array.getElem?_eq_none h0] at hg
 have hg2:((w.alloc (.cells #[.pointer (some ⟨t,0,none⟩)] 192)).alloc (.cells #[.pointer (some ⟨7,192,none⟩),.pointer (some ⟨w.heap.size,0,none⟩),.int .u64 150] 213)).cell? ⟨1,0,none⟩=some (.iface 231 (.agg #[.pointer (some ⟨7,119,none⟩)])):=by
  rw[World.cell?_alloc_lt _ _ ⟨1,0,none⟩ (by simp;omega),World.cell?_alloc_lt _ _ ⟨1,0,none⟩ hlt];exact hg
 have htl:t<w.heap.size:=by
  rcases Nat.lt_or_ge t w.heap.size with h | h
  ·exact h
  ·simp[World.cell?,Array.getElem?_eq_none h] at ht0
 have el:=X4 ⟨w.heap.size,0,none⟩ ⟨t,0,none⟩ (((w.alloc (.cells #[.pointer (some ⟨t,0,none⟩)] 192)).alloc (.cells #[.pointer (some ⟨7,192,none⟩),.pointer (some ⟨w.heap.size,0,none⟩),.int .u64 150] 213)).alloc (.cells #[.pointer (some ⟨7,192,none⟩),.pointer (some ⟨w.heap.size,0,none⟩),.int .u64 150] 213)) (by rw[World.cell?_alloc_lt _ _ ⟨w.heap.size,0,none⟩ (by simp;omega)];simp)
 have st:=acS t (w.heap.size+1+1+1) x y o1 o2 ((((w.alloc (.cells #[.pointer (some ⟨t,0,none⟩)] 192)).alloc (.cells #[.pointer (some ⟨7,192,none⟩),.pointer (some ⟨w.heap.size,0,none⟩),.int .u64 150] 213)).alloc (.cells #[.pointer (some ⟨7,192,none⟩),.pointer (some ⟨w.heap.size,0,none⟩),.int .u64 150] 213)).alloc (.cells #[.int .i64 x,.int .i64 y] 189))
  (by rw[World.cell?_alloc_at _ _ _ _ (by simp)];rfl)
  (by rw[World.cell?_alloc_at _ _ _ _ (by simp)];rfl)
  (by rw[World.cell?_alloc_lt _ _ ⟨t,0,none⟩ (by simp;omega),World.cell?_alloc_lt _ _ ⟨t,0,none⟩ (by simp;omega),World.cell?_alloc_lt _ _ ⟨t,0,none⟩ (by simp;omega),World.cell?_alloc_lt _ _ ⟨t,0,none⟩ htl];exact ht0)
  (by rw[World.frozen?_alloc_old _ _ ⟨t,0,none⟩ (by simp;omega),World.frozen?_alloc_old _ _ ⟨t,0,none⟩ (by simp;omega),World.frozen?_alloc_old _ _ ⟨t,0,none⟩ (by simp;omega),World.frozen?_alloc_old _ _ ⟨t,0,none⟩ (Nat.ne_of_lt htl)];exact hf0)
  (by rw[World.cell?_setCell_other _ ⟨t,0,none⟩ ⟨t,1,none⟩ _ (by simp),World.cell?_alloc_lt _ _ ⟨t,1,none⟩ (by simp;omega),World.cell?_alloc_lt _ _ ⟨t,1,none⟩ (by simp;omega),World.cell?_alloc_lt _ _ ⟨t,1,none⟩ (by simp;omega),World.cell?_alloc_lt _ _ ⟨t,1,none⟩ htl];exact ht1)
  (by rw[World.frozen?_setCell,World.frozen?_alloc_old _ _ ⟨t,1,none⟩ (by simp;omega),World.frozen?_alloc_old _ _ ⟨t,1,none⟩ (by simp;omega),World.frozen?_alloc_old _ _ ⟨t,1,none⟩ (by simp;omega),World.frozen?_alloc_old _ _ ⟨t,1,none⟩ (Nat.ne_of_lt htl)];exact hf1)
 go_enter Tryz.func196,Tryz.ntmps196;go_wp2;refine wp_loop_rounds 1 ?_;rw[rounds_succ];go_wp2;go_ret;exact⟨rfl,rfl⟩
def rQ (w:World):Prop:=w.cell? ⟨1,0,none⟩=some (.iface 231 (.agg #[.pointer (some ⟨7,119,none⟩)]))
theorem rQ.up {w w':World} (h:rQ w) (hb:Below w.heap.size w w'):rQ w':=by
 have hlt:1<w.heap.size:=by
  rcases Nat.lt_or_ge 1 w.heap.size with h1 | h0
  ·exact h1
  ·unfold rQ at h;simp[World.cell?,Array.getElem?_eq_none h0] at h
 exact(hb.cell (p:=⟨1,0,none⟩) hlt).trans h
theorem PE (x y:Int) (t B:Nat) (o1 o2:Value) (w:World) (hg:rQ w) (ht:fU w t 189 #[o1,o2]) (hB:B≤t):
  Calls Tryz.prog 196 #[.iface 189 (.agg #[.int .i64 x,.int .i64 y]),.iface 192 (.pointer (some ⟨t,0,none⟩))] w fun ev w'=>ev= .returned (.bool true)∧Below B w w':=by
 have hl:=ht.lt;refine(as_hit x y t o1 o2 w hg (ht.cell 0) (ht.cell 1) (ht.frozen 0) (ht.frozen 1)).mono ?_;rintro e w' ⟨rfl,rfl⟩;refine⟨rfl,?_⟩;refine Below.setCell (Below.setCell (Below.alloc (Below.alloc (Below.alloc (Below.alloc (ai _ _) (by omega) _) (by simp;omega) _) (by simp;omega) _) (by simp;omega) _) hB _) hB _
open Go.ChangeShapes Go.WideShapes Go.RowKit
theorem Yh:Tryz.prog.globalNamed "errors.errorType" =some 1:=by kernel_rfl
theorem Yi:(Tryz.prog.cutTypes.find? (·.1 == "internal/reflectlite.rtype")).map (·.2)=some 231:=by kernel_rfl
theorem WA:((List.range Tryz.prog.types.size).filter fun t=>Tryz.prog.rowNamed t [101,114,114,111,114])=[119]:=by kernel_rfl
theorem J3 {W:World} (h:laidMetH Tryz.prog [("errors.errorType",Rows.laid_errors_errorType)] W):rQ W:=by
 have h':laidMet Tryz.prog [] W∧handlesMet Tryz.prog [("errors.errorType",Rows.laid_errors_errorType)] W:=h;obtain⟨name,u,ty,e1,e2,e3,e4,e5⟩:=h'.2 _ (List.mem_singleton.2 rfl);have en:name=[101,114,114,111,114]:=(Option.some.inj e1).symm;subst en;obtain rfl:=Option.some.inj (Yi.symm.trans e2);have hm:ty∈(List.range Tryz.prog.types.size).filter fun t=>Tryz.prog.rowNamed t [101,114,114,111,114]:=List.mem_filter.2 ⟨List.mem_range.2 e3,e4⟩
 rw[WA] at hm;obtain rfl:=List.mem_singleton.1 hm;have hh:typeHandle Tryz.prog 119= .pointer (some ⟨7,119,none⟩):=by kernel_rfl
 rw[hh] at e5
 simpa[rQ] using World.var?_cell Yh e5 0
theorem WI {l:List (String×DataW Unit)} {W:World} (h:laidMetH Tryz.prog l W) (hf:(l.filter fun x=>x.1 == "errors.errorType")=[("errors.errorType",Rows.laid_errors_errorType)]):rQ W:=by
 have:=h.filter fun x=>x.1 == "errors.errorType"
 rw[hf] at this;exact J3 this


def aaB (d:Bool):ByteArray:=if d=true then⟨#[111,107]⟩ else⟨#[110,111]⟩
theorem Jr (v:Value) (b:aG) (s:ByteArray) (k m:Int) (w:World) (h:RdB w w.heap.size v b) (hok:aN b=true) (hs:s.size≤9223372036854775807) (hr:readA s.data.toList=some (k,m)):
  Calls Tryz.prog 9 #[v,.string s] w (Gives w (fun v=>.tuple #[v,.string (aaB (eY b ⟨k,m⟩))]) fun v=>[aI v (dY b ⟨k,m⟩)]):=by
 obtain⟨G,gn,gc,G',n',c',D',dn,dc,hv⟩:=h.form;subst hv;obtain⟨os,hos⟩:∃x,b.order.start=x:=⟨_,rfl⟩;obtain⟨st,hst⟩:∃x,b.state=x:=⟨_,rfl⟩;rw[hos,hst] at h ⊢
 have aS:Hid (St w ((w.alloc (.cells #[.int .i64 os,.slice G gn gc,.slice G' n' c',.slice D' dn dc,.int .i64 st] 28)).alloc (.cells #[.int .i64 0,.slice none 0 0,.slice none 0 0,.slice none 0 0,.int .i64 0] 28)) [ah w.heap.size 28 #[.int .i64 os,.slice G gn gc,.slice G' n' c',.slice D' dn dc,.int .i64 st],ah (w.heap.size+1) 28 #[.int .i64 0,.slice none 0 0,.slice none 0 0,.slice none 0 0,.int .i64 0]]):=af (by
  have:=((St.refl w).alloc #[.int .i64 os,.slice G gn gc,.slice G' n' c',.slice D' dn dc,.int .i64 st] 28).alloc #[.int .i64 0,.slice none 0 0,.slice none 0 0,.slice none 0 0,.int .i64 0] 28
  simpa using this)
 have HB:=af h;have bG:=Bx.mk hok;have HR:=Bx.mk hr;have YF:Bx ((Lit.int .i64 m).wf=true):=Bx.mk (bU (by have:=BA hr;omega));obtain⟨x,hx⟩:∃x,dY b ⟨k,m⟩=x:=⟨_,rfl⟩;obtain⟨did,wE⟩:∃x,eY b ⟨k,m⟩=x:=⟨_,rfl⟩;have HX:=Bx.mk hx;have Es:=Bx.mk wE;obtain⟨jI,hxs⟩:∃y,x.order.start=y:=⟨_,rfl⟩;obtain⟨xt,hxt⟩:∃y,x.state=y:=⟨_,rfl⟩;have Uh:=Bx.mk hxs;have Ui:=Bx.mk hxt;rw[hx,wE];have HS:=Bx.mk hs;clear h hok hr hos hst hx wE hxs hxt hs;go_enter Tryz.func9,Tryz.ntmps9
 go_wp2_with fail
 refine(dF _ b _ (HB.out.up aS.out.below)).mono ?_;rw[bG.out];rintro e w1 ⟨rfl,hb1⟩;have bf:=af (aS.out.quiet hb1);clear hb1 aS;have q0:=bf.out.cells 0 rfl
 go_wp2_with fail
 refine(sZ s _ HS.out).mono ?_;rw[HR.out];rintro e w2 ⟨he,hb2⟩;have he':e= .returned (.tuple #[.agg #[.int .i64 k,.int .i64 m],.bool true]):=he;subst he';clear he;obtain⟨g6,yu⟩:∃y,w2.heap.size=y:=⟨_,rfl⟩;have HS2:Hid (St w (w2.alloc (.cells #[.int .i64 k,.int .i64 m] 64)) [ah w.heap.size 28 #[.int .i64 os,.slice G gn gc,.slice G' n' c',.slice D' dn dc,.int .i64 st],ah (w.heap.size+1) 28 #[.int .i64 0,.slice none 0 0,.slice none 0 0,.slice none 0 0,.int .i64 0],ah g6 64 #[.int .i64 k,.int .i64 m]]):=af (by rw[←yu];exact(bf.out.quiet hb2).alloc _ _);clear hb2 bf q0;have q0:=HS2.out.cells 0 rfl
 go_wp2_with fail
 try rw[yu]
 refine(Ba _ b k m _ (HB.out.up HS2.out.below) YF.out).mono ?_;rw[HX.out,Es.out];rintro e w3 ⟨v3,rfl,s3⟩;obtain⟨X1,i1,j1,X2,i2,j2,X3,i3,j3,hv⟩:=s3.gU 0 rfl;rw[Uh.out,Ui.out] at hv;subst hv;obtain⟨g8,NV⟩:∃y,w3.heap.size=y:=⟨_,rfl⟩;have cu:Hid (St w (w3.alloc (.cells #[.int .i64 jI,.slice X1 i1 j1,.slice X2 i2 j2,.slice X3 i3 j3,.int .i64 xt] 28)) [ah w.heap.size 28 #[.int .i64 os,.slice G gn gc,.slice G' n' c',.slice D' dn dc,.int .i64 st],ah (w.heap.size+1) 28 #[.int .i64 0,.slice none 0 0,.slice none 0 0,.slice none 0 0,.int .i64 0],ah g6 64 #[.int .i64 k,.int .i64 m],aI (.agg #[.int .i64 jI,.slice X1 i1 j1,.slice X2 i2 j2,.slice X3 i3 j3,.int .i64 xt]) x,ah g8 28 #[.int .i64 jI,.slice X1 i1 j1,.slice X2 i2 j2,.slice X3 i3 j3,.int .i64 xt]]):=af (by rw[←NV];exact(HS2.out.call s3).alloc _ _);clear s3 HS2 q0 yu;have q1:=cu.out.cells 1 rfl;have f1:=cu.out.free 1 rfl;have fH:=af ((cu.out.fF 1 rfl (.int .i64 jI) (.slice X1 i1 j1) (.slice X2 i2 j2) (.slice X3 i3 j3) (.int .i64 xt)).pick [3,1] (by decide) rfl rfl)
 cases did with
 |true=>
  go_wp2;have q2:=fH.out.cells 1 rfl;refine bodyPost_ret (v:=.tuple #[.agg #[.int .i64 jI,.slice X1 i1 j1,.slice X2 i2 j2,.slice X3 i3 j3,.int .i64 xt],.string ⟨#[111,107]⟩]) (by simp[results,Tryz.results9,go_sem,q2]) rfl ⟨_,rfl,fH.out.pick [0] (by decide) rfl rfl⟩
 |false=>
  go_wp2;have q2:=fH.out.cells 1 rfl;refine bodyPost_ret (v:=.tuple #[.agg #[.int .i64 jI,.slice X1 i1 j1,.slice X2 i2 j2,.slice X3 i3 j3,.int .i64 xt],.string ⟨#[110,111]⟩]) (by simp[results,Tryz.results9,go_sem,q2]) rfl ⟨_,rfl,fH.out.pick [0] (by decide) rfl rfl⟩
inductive Cond where
 |one (s:Int)
 |turn (p:Cond)
 |join (s:Int) (l h:Cond)
deriving Inhabited
namespace Cond
def steps:Cond→List Int
 | .one s=>[s]
 | .turn p=>p.steps++[7]
 | .join s l h=>l.steps++h.steps++[s]
def Ok:Cond→Prop
 | .one s=>0≤s∧s≤6
 | .turn p=>p.Ok
 | .join s l h=>(s=8∨s=9)∧l.Ok∧h.Ok
def last:Cond→Int
 | .one s=>s
 | .turn _=>7
 | .join s _ _=>s
def mine:Cond→Nat
 | .join s _ _=>if s=8 then 2 else 1
 |_=>3
end Cond
def sgn (s:Int):UInt8:=if s=5 then 49 else if s=6 then 48 else UInt8.ofNat (97+s.toNat)
def Cond.text:Cond→Nat→List UInt8
 | .one s,_=>[sgn s]
 | .turn p,_=>33::p.text 3
 | .join s l h,k=>
  let m:=if s=8 then 2 else 1
  let t:=l.text m++(if s=8 then 38 else 124)::h.text (m+1)
  if m<k then 40::(t++[41]) else t
theorem Cond.F9 (c:Cond) (k:Nat) (hk:k≤3):c.text k=if c.mine<k then 40::(c.text 0++[41]) else c.text 0:=by
 cases c with
 |one s=>rw[if_neg (by simp only[Cond.mine];omega)];rfl
 |turn p=>rw[if_neg (by simp only[Cond.mine];omega)];rfl
 |join s l h=>
  simp only[Cond.text,Cond.mine,Nat.not_lt_zero,if_false]
theorem Cond.Ar (c:Cond):1≤c.steps.length:=by
 cases c<;>simp[Cond.steps]<;>omega
theorem Cond.oU (c:Cond):∀k,(c.text k).length≤5*c.steps.length:=by
 induction c with
 |one s=>intro k;simp[Cond.text,Cond.steps]
 |turn p ih=>intro k;have:=ih 3;simp[Cond.text,Cond.steps];omega
 |join s l h ihl ihh=>
  intro k;simp only[Cond.text,Cond.steps]
  generalize (if s=8 then 2 else 1)=m
  generalize (if s=8 then(38:UInt8) else 124)=sg
  have h1:=ihl m;have h2:=ihh (m+1)
  split<;>simp only[bM,bQ,List.length_nil]<;>omega
def iq (st:List Cond) (x:Int):List Cond:=
 if x≤6 then .one x::st
 else if x=7 then
  match st with
  |p::r=>.turn p::r
  | []=>[]
 else
  match st with
  |h::l::r=>.join x l h::r
  |_=>[]
def jW (st:List Cond) (xs:List Int):List Cond:=xs.foldl iq st
def l7 (xs:List Int):Cond:=(jW [] xs).headD (.one 6)
def qN (st:List Cond):List Int:=(st.reverse.map Cond.steps).flatten
theorem lg (c:Cond) (st:List Cond):qN (c::st)=qN st++c.steps:=by simp[qN]
theorem Gf {st:List Cond} {x:Int} {d':Nat} (h:iF st.length x=some d') (hok:∀c∈st,c.Ok):
  (iq st x).length=d'∧(∀c∈iq st x,c.Ok)∧qN (iq st x)=qN st++[x]:=by
 unfold iF at h
 by_cases h1:x<0∨9<x
 ·rw[if_pos h1] at h;cases h
 rw[if_neg h1] at h
 unfold iq
 by_cases h2:x≤6
 ·rw[if_pos h2] at h ⊢
  injection h with h
  refine⟨h,?_,?_⟩
  ·intro c hc
   rcases List.mem_cons.1 hc with rfl | hc
   ·exact⟨by omega,h2⟩
   ·exact hok c hc
  ·rw[lg];rfl
 rw[if_neg h2] at h ⊢
 by_cases h3:x=7
 ·rw[if_pos h3] at h ⊢
  subst h3
  by_cases h4:1≤st.length
  ·rw[if_pos h4] at h
   injection h with h
   match st,h4,hok with
   |p::r,h4,hok=>
    refine⟨h,?_,?_⟩
    ·intro c hc
     rcases List.mem_cons.1 hc with rfl | hc
     ·exact hok p (List.mem_cons_self ..)
     ·exact hok c (List.mem_cons_of_mem _ hc)
    ·rw[lg,lg];simp[Cond.steps]
  ·rw[if_neg h4] at h;cases h
 rw[if_neg h3] at h ⊢
 by_cases h4:2≤st.length
 ·rw[if_pos h4] at h
  injection h with h
  match st,h4,hok,h with
  |b::a::r,h4,hok,h=>
   refine⟨by simp at h ⊢;omega,?_,?_⟩
   ·intro c hc
    rcases List.mem_cons.1 hc with rfl | hc
    ·exact⟨by omega,hok a (by simp),hok b (by simp)⟩
    ·exact hok c (by simp[hc])
   ·rw[lg,lg,lg];simp[Cond.steps]
 ·rw[if_neg h4] at h;cases h
theorem JF {xs:List Int}:∀{st:List Cond} {d:Nat},jC st.length xs=some d→(∀c∈st,c.Ok)→
  (jW st xs).length=d∧(∀c∈jW st xs,c.Ok)∧qN (jW st xs)=qN st++xs:=by
 induction xs with
 |nil=>intro st d h hok;simp only[jC] at h;injection h with h;exact⟨h,hok,by simp[jW]⟩
 |cons x xs ih=>
  intro st d h hok;simp only[jC] at h
  cases hs:iF st.length x with
  |none=>rw[hs] at h;cases h
  |some d'=>
   rw[hs] at h;obtain⟨a,b,c⟩:=Gf hs hok;have h':jC (iq st x).length xs=some d:=by rw[a];exact h
   obtain⟨p,q,r⟩:=ih h' b;exact⟨p,q,by rw[show jW st (x::xs)=jW (iq st x) xs from rfl,r,c];simp⟩
theorem JG (xs:List Int) (k:Nat) (x:Int) (hx:xs[k]? =some x):jW [] (xs.take (k+1))=iq (jW [] (xs.take k)) x:=by
 unfold jW
 rw[List.take_add_one,hx]
 simp
theorem vH {xs:List Int} (h:codeOk xs=true):jW [] xs=[l7 xs]∧(l7 xs).Ok∧(l7 xs).steps=xs:=by
 obtain⟨h1,h2,h3⟩:=(jg xs).1 h;obtain⟨a,b,c⟩:=JF (st:=[]) h3 (by simp)
 have e:jW [] xs=[l7 xs]:=by
  unfold l7
  match hh:jW [] xs,a with
  | [t],_=>rfl
 refine⟨e,b _ (by rw[e];simp),?_⟩;rw[e] at c
 simpa[qN] using c
def jQ (xs:List Int):List UInt8:=if codeOk xs then(l7 xs).text 0 else []
theorem nY (xs:List Int):(jQ xs).length≤200:=by
 unfold jQ
 split
 ·rename_i h;have h1:=(l7 xs).oU 0;rw[(vH h).2.2] at h1
  have:=((jg xs).1 h).2.1
  omega
 ·simp
def kz (x:Int):Int:=if x=7 then 1 else if x=8∨x=9 then 2 else 0
def needs:List Int→Int
 | []=>0
 |x::xs=>(kz x-1)+needs xs
theorem lm (a b:List Int):needs (a++b)=needs a+needs b:=by
 induction a with
 |nil=>simp[needs]
 |cons x a ih=>simp only[List.cons_append,needs,ih];omega
theorem Cond.BG {c:Cond} (h:c.Ok):needs c.steps= -1:=by
 induction c with
 |one s=>have:kz s=0:=by unfold kz;rw[if_neg (by have:=h.1;have:=h.2;omega),if_neg (by have:=h.1;have:=h.2;omega)]
         simp[Cond.steps,needs,this]
 |turn p ih=>simp only[Cond.steps,lm,ih h];rfl
 |join s l r ihl ihr=>
  have:kz s=2:=by unfold kz;rw[if_neg (by have:=h.1;omega),if_pos h.1]
  simp only[Cond.steps,lm,ihl h.2.1,ihr h.2.2,needs,this];rfl
theorem Cond.Pv {c:Cond} (h:c.Ok):∀j,1≤j→0≤needs (c.steps.drop j):=by
 induction c with
 |one s=>intro j hj;rw[List.drop_eq_nil_of_le (by simpa[Cond.steps] using hj)];simp[needs]
 |turn p ih=>
  intro j hj;simp only[Cond.steps]
  rcases Nat.lt_or_ge j p.steps.length with hl | hl
  ·rw[List.drop_append_of_le_length (by omega),lm]
   have:=ih h j hj
   have e:needs [7]=0:=rfl
   omega
  ·rcases Nat.lt_or_ge j (p.steps.length+1) with h2 | h2
   ·obtain rfl:j=p.steps.length:=by omega
    rw[List.drop_left];exact Int.le_of_eq rfl
   ·rw[List.drop_eq_nil_of_le (by simpa using h2)];simp[needs]
 |join s l r ihl ihr=>
  intro j hj;have ht:kz s=2:=by unfold kz;rw[if_neg (by have:=h.1;omega),if_pos h.1]
  have e1:needs [s]=1:=by simp[needs,ht]
  have e2:=Cond.BG h.2.2;simp only[Cond.steps];rw[List.append_assoc]
  rcases Nat.lt_or_ge j l.steps.length with hl | hl
  ·rw[List.drop_append_of_le_length (by omega),lm,lm]
   have:=ihl h.2.1 j hj
   omega
  ·rw[List.drop_append,List.drop_eq_nil_of_le hl,List.nil_append]
   generalize j-l.steps.length=i
   rcases Nat.lt_or_ge i r.steps.length with h2 | h2
   ·rw[List.drop_append_of_le_length (by omega),lm]
    rcases Nat.eq_zero_or_pos i with rfl | hi
    ·rw[List.drop_zero];omega
    ·have:=ihr h.2.2 i hi
     omega
   ·rw[List.drop_append,List.drop_eq_nil_of_le h2,List.nil_append]
    rcases Nat.eq_zero_or_pos (i-r.steps.length) with e | e
    ·rw[e,List.drop_zero];omega
    ·rw[List.drop_eq_nil_of_le (by simp only[bM,List.length_nil];omega)];simp[needs]
def rP (n k:Nat):List UInt8:=((List.range k).filter fun i=>bit n i == 1).map fun i=>UInt8.ofNat (97+i)
def gK (n:Nat):List UInt8:=if n=0 then [45] else rP n 5
def uh (s:List UInt8):Option Nat:=(List.range 32).find? fun n=>gK n == s
theorem MO {n k:Nat} (h:bit n k=1):rP n (k+1)=rP n k++[UInt8.ofNat (97+k)]:=by simp[rP,List.range_succ,h]
theorem QI {n k:Nat} (h:bit n k=0):rP n (k+1)=rP n k:=by simp[rP,List.range_succ,h]
theorem MP:∀n,n<32→uh (gK n)=some n:=by decide+kernel
theorem Tj:∀n,n<32→(32:UInt8)∉gK n:=by decide+kernel
theorem JE:∀n,n<32→n≠0→rP n 5≠[]:=by decide+kernel
theorem VO (n k:Nat):(rP n k).length≤k:=by
 unfold rP;rw[List.length_map];exact Nat.le_trans (List.length_filter_le _ _) (by simp)
theorem iM (n:Nat):(gK n).length≤5:=by
 unfold gK;split
 ·simp
 ·exact VO n 5
theorem rO {s:List UInt8} {n:Nat} (h:uh s=some n):n<32∧gK n=s:=by
 have h1:=List.find?_some h;have h2:=List.mem_of_find?_eq_some h;exact⟨by simpa using h2,by simpa using h1⟩
def ku (s:List UInt8):Int:=
 if s.length<1∨10<s.length∨(1<s.length∧s.head? =some 48) then -1 else gu 0 s
def yZ (xs:List Int):Bool:=lG xs == 4294967295
def iH (t:aB):Bool:=aK t&&t.ay.all fun d=>decide (d.on=0)&&decide (d.off=0)&&yZ d.need
def kE (t:aB) (f:Nat):Bool:=
 iH t&&(t.ay.all fun d=>iY (d.flip.toNat &&& f)%2 == 0)&&(List.range 32).all fun s=> !aH t.goal s|| !(iY (s &&& f)%2 == iY (t.start.toNat &&& f)%2)
def kN (t:aB):Option Nat:=(List.range 32).find? (kE t)
def eF (t:aB) (z:Int):Bool:=
 aK t&&decide (0≤z∧z<4294967296)&&gq z.toNat t.start.toNat&&
  (List.range 32).all fun s=> !gq z.toNat s||(!aH t.goal s&&t.ay.all fun d=>match bD d s with | none=>true | some q=>gq z.toNat q)
def iW (t:aB) (p:List Int):Bool:=decide (0≤aC t t.start p)&&aH t.goal (aC t t.start p).toNat
def kM:List UInt8:=[112,108,97,110]
def jk:List UInt8:=[99,108,111,115,101,100]
def sumW:List UInt8:=[115,117,109]
def nG (p:List Int):List UInt8:=kM++p.flatMap fun k=>32::jm k.toNat
def jq (t:aB):List UInt8:=
 if aK t then
  match dG t with
  |some p=>nG p
  |none=>match kN t with
   |some f=>sumW++32::gK f
   |none=>jk++32::jm (aQ (lZ t.ay (only t.start.toNat) 32) 32)
 else []
def bY (t:aB) (s:List UInt8):Int:=
 match fQ 32 [] s with
 |w::ws=>
  if w=kM then(if iW t (ws.map kH) then 1 else -1)
  else if w=jk then(match ws with | [x]=>if eF t (ku x) then 0 else -1 | _=>-1)
  else if w=sumW then(match ws with | [x]=>(match uh x with | some f=>if kE t f then 0 else -1 | none=>-1) | _=>-1)
  else -1
 | []=>-1
theorem wY {t:aB} {p:List Int} (h:dG t=some p):∀x∈p,0≤x∧x<6:=by
 obtain⟨hl,h1,-⟩:=oL h;obtain⟨h2,h3,h4,-⟩:=(fE t t.start p).1 h1
 have h6:t.ay.length≤6:=by
  unfold aK at h2
  simp only[Bool.and_eq_true,decide_eq_true_eq] at h2;exact h2.1.2
 unfold aC at h1
 rw[if_pos ⟨h2,h3,h4⟩] at h1;obtain⟨s',hs'⟩:=qf.1 h1;clear h1 h
 have:∀(p:List Int) (s s':Nat),jY t s p=some s'→∀x∈p,0≤x∧x<6:=by
  intro p
  induction p with
  |nil=>intro s s' _ x hx;cases hx
  |cons k p ih=>
   intro s s' hr x hx;simp only[jY] at hr
   cases hk:mr t s k with
   |none=>rw[hk] at hr;cases hr
   |some s1=>
    rw[hk] at hr
    rcases List.mem_cons.1 hx with rfl | hx
    ·unfold mr at hk
     split at hk
     ·omega
     ·cases hk
    ·exact ih s1 s' hr x hx
 exact this p _ _ hs'
def okW:List UInt8:=[111,107]
def noW:List UInt8:=[110,111]
def tX:List UInt8:=[110,111,110,101]
def aaE:List UInt8:=[121,101,115]
def Ep:List UInt8:=[119,104,97,116]
def acY:List UInt8:=[99,97,110]
def QT:List UInt8:=[99,97,110,110,111,116]
def Nr:List UInt8:=[110,111,116,104,105,110,103]
def kC:List UInt8:=[102,105,110,105,115,104]
def Af:List UInt8:=[115,116,97,116,101]
def Hf:List UInt8:=[116,97,115,107]
def Hg:List UInt8:=[100,111,110,101]
def Sv:List UInt8:=[109,97,121]
def Hq:List UInt8:=[108,101,102,116]
def Aj:List UInt8:=[101,110,100,101,100]
def Ak:List UInt8:=[112,114,111,111,102]
def qm:List UInt8:=[99,104,101,99,107,32]
def rF (t:aB):List UInt8:=
 gK t.start.toNat++62::(jQ t.goal++t.ay.flatMap fun d=>59::(jQ d.need++58::(gK d.on.toNat++44::(gK d.off.toNat++44::gK d.flip.toNat))))
def FP:List Int→List UInt8
 | []=>tX
 |x::r=>jm x.toNat++r.flatMap fun k=>44::jm k.toNat
def nC (z:Int):List UInt8:=if z=1 then acY else if z=0 then QT else Nr
def rE (b:aG) (line:List UInt8):List UInt8:=
 if line=Af then gK b.state.toNat
 else if line=Hf then rF b.order
 else if line=Hg then jm b.done.length
 else if line=Sv then FP (dO b.order b.state)
 else if line=Hq then(match dB b with | none=>tX | some p=>jm p.length)
 else if line=Aj then(if fA b then aaE else noW)
 else if line=Ak then jq (dD b)
 else if qm.isPrefixOf line=true∧6<line.length then nC (bY (dD b) (line.drop 6))
 else Ep
def lQ (b:aG) (line:List UInt8):aG×List UInt8:=
 if aN b then
  match readA line with
  |some (k,n)=>(dY b ⟨k,n⟩,if eY b ⟨k,n⟩ then okW else noW)
  |none=>if line=kC then((gY b (gZ b)).1,if(gZ b).length=0 then tX else okW) else(b,rE b line)
 else(oG,[])
theorem Bz {b:aG} (h:aN b=true):gY b []=(b,0):=by
 unfold gY;rw[h];simp[nU]
theorem PN {b:aG} {aa:List iP} (h:aN b=true) (hl:aa.length≤40):aN (gY b aa).1=true∧(gY b aa).1.order=b.order:=by
 unfold gY
 rw[h,decide_eq_true hl];exact⟨(IW aa h).1,(IW aa h).2.1⟩
theorem QU {b:aG} (line:List UInt8) (h:aN b=true):aN (lQ b line).1=true∧(lQ b line).1.order=b.order∧((lQ b line).2=okW∨(lQ b line).1=b):=by
 unfold lQ
 rw[if_pos h]
 cases hr:readA line with
 |some a=>
  obtain⟨k,n⟩:=a;refine⟨qX _ h,yE _ h,?_⟩
  show(if eY b ⟨k,n⟩ then okW else noW)=okW∨dY b ⟨k,n⟩=b
  cases hd:aZ b ⟨k,n⟩ with
  |some d=>left;rw[(iZ h hd).2];rfl
  |none=>right;exact(fV h hd).1
 |none=>
  show aN (if line=kC then _ else(b,rE b line)).1=true∧_
  by_cases hf:line=kC
  ·simp only[if_pos hf];obtain⟨h1,h2⟩:=PN (aa:=gZ b) h (Nat.le_trans (qK b) (by decide));refine⟨h1,h2,?_⟩
   by_cases he:(gZ b).length=0
   ·right
    rw[List.length_eq_zero_iff.1 he,Bz h]
   ·left;rw[if_neg he]
  ·simp only[if_neg hf];exact⟨h,by trivial,.inr (by trivial)⟩
theorem TP {t:aB} (h:aK t=true):jq t≠[]:=by
 unfold jq
 rw[if_pos h]
 cases dG t with
 |some p=>simp[nG,kM]
 |none=>cases kN t<;>simp[sumW,jk]
theorem Ky {b:aG} (h:aN b=true) (hc:(dG b.order).isSome=true):fA (lQ b kC).1=true:=by
 unfold lQ
 rw[if_pos h,show readA kC=none from by decide];exact(Ns h hc).2
def kF (b:aG):List (List UInt8)→aG×List (List UInt8)
 | []=>(b,[])
 |l::ls=>((kF (lQ b l).1 ls).1,(lQ b l).2::(kF (lQ b l).1 ls).2)
def dW (b:aG) (ls:List (List UInt8)):aG×List (List UInt8):=if aN b&&decide (ls.length≤40) then kF b ls else(oG,[])
theorem zo (b:aG) (p q:List (List UInt8)):kF b (p++q)=((kF (kF b p).1 q).1,(kF b p).2++(kF (kF b p).1 q).2):=by
 induction p generalizing b with
 |nil=>rfl
 |cons l p ih=>simp only[List.cons_append,kF,ih]
theorem zq {b:aG} (ls:List (List UInt8)) (h:aN b=true):aN (kF b ls).1=true∧(kF b ls).1.order=b.order∧(kF b ls).2.length=ls.length:=by
 induction ls generalizing b with
 |nil=>exact⟨h,rfl,rfl⟩
 |cons l ls ih=>
  obtain⟨h1,h2,-⟩:=QU l h;obtain⟨k1,k2,k3⟩:=ih h1;exact⟨k1,by rw[←h2];exact k2,by simp only[kF,bM,k3]⟩
def zu (b:aG) (ls:List (List UInt8)) (k:Nat):aG×List (List UInt8):=kF b (ls.take k)
theorem ET {b:aG} {ls:List (List UInt8)} {k:Nat} {l:List UInt8} (h:ls[k]? =some l):zu b ls (k+1)=((lQ (zu b ls k).1 l).1,(zu b ls k).2++[(lQ (zu b ls k).1 l).2]):=by
 unfold zu
 rw[List.take_add_one,h];simp only[Option.toList_some,zo,kF]
theorem Ii (b:aG) (ls:List (List UInt8)) {k:Nat} (h:ls.length≤k):zu b ls k=kF b ls:=by unfold zu;rw[gW h]
def Cond.val:Cond→Value
 | .one s=>.iface 202 (.agg #[.int .i64 s])
 | .turn p=>.iface 204 (.agg #[p.val])
 | .join s l h=>.iface 208 (.agg #[.int .i64 s,l.val,h.val])
theorem Cond.kP (c:Cond):∃t d,c.val= .iface t d:=by cases c<;>exact⟨_,_,rfl⟩
theorem EY (v:Value) (w:World):(Instr.typeAssert (.iface 202 v) 185 202 true).run Tryz.prog w= .ok (.tuple #[v,.bool true]) w:=by kernel_rfl
theorem BJ (v:Value) (w:World):(Instr.typeAssert (.iface 204 v) 185 202 true).run Tryz.prog w= .ok (.tuple #[.agg #[.int .i64 0],.bool false]) w:=by kernel_rfl
theorem JL (v:Value) (w:World):(Instr.typeAssert (.iface 204 v) 185 204 true).run Tryz.prog w= .ok (.tuple #[v,.bool true]) w:=by kernel_rfl
theorem JO (v:Value) (w:World):(Instr.typeAssert (.iface 204 v) 185 208 true).run Tryz.prog w= .ok (.tuple #[.agg #[.int .i64 0,.nilIface,.nilIface],.bool false]) w:=by kernel_rfl
theorem BK (v:Value) (w:World):(Instr.typeAssert (.iface 208 v) 185 202 true).run Tryz.prog w= .ok (.tuple #[.agg #[.int .i64 0],.bool false]) w:=by kernel_rfl
theorem JM (v:Value) (w:World):(Instr.typeAssert (.iface 208 v) 185 204 true).run Tryz.prog w= .ok (.tuple #[.agg #[.nilIface],.bool false]) w:=by kernel_rfl
theorem zy (v:Value) (w:World):(Instr.typeAssert (.iface 208 v) 185 208 true).run Tryz.prog w= .ok (.tuple #[v,.bool true]) w:=by kernel_rfl
theorem tJ (c:Cond) (w:World):
  Calls Tryz.prog 210 #[c.val] w fun e w'=>e= .returned (.int .i64 c.last)∧Below w.heap.size w w':=by
 cases c with
 |one s=>
  simp only[Cond.val,Cond.last];have a1:=EY;go_enter Tryz.func210,Tryz.ntmps210;go_wp2;go_ret;exact⟨rfl,(ai _ _).alloc (aA _) _⟩
 |turn p=>
  simp only[Cond.val,Cond.last];obtain⟨pt,pd,hpv⟩:=p.kP;rw[hpv];clear hpv;have a1:=BJ;have a2:=JO;go_enter Tryz.func210,Tryz.ntmps210;go_wp2;go_ret;exact⟨rfl,ai _ _⟩
 |join s l h=>
  simp only[Cond.val,Cond.last];obtain⟨lt,ld,hlv⟩:=l.kP;obtain⟨ht,hd,hhv⟩:=h.kP;rw[hlv,hhv];clear hlv hhv;have a1:=BK;have a2:=zy;go_enter Tryz.func210,Tryz.ntmps210;go_wp2;go_ret;exact⟨rfl,(ai _ _).alloc (aA _) _⟩
theorem Ip {s:Int} (h0:0≤s) (h:s≤4):((sgn s).toNat:Int)=97+s:=by
 unfold sgn
 rw[if_neg (by omega),if_neg (by omega),UInt8.toNat_ofNat']
 omega
theorem EZ (s:Int) (h0:0≤s) (h6:s≤6) (w:World):
  Calls Tryz.prog 209 #[.int .i64 s] w fun e w'=>e= .returned (.string ⟨[sgn s].toArray⟩)∧Below w.heap.size w w':=by
 by_cases h5:s=5
 ·subst h5;go_enter Tryz.func209,Tryz.ntmps209;go_wp2;go_ret;exact⟨rfl,ai _ _⟩
 by_cases hs6:s=6
 ·subst hs6;go_enter Tryz.func209,Tryz.ntmps209;go_wp2;go_ret;exact⟨rfl,ai _ _⟩
 have hd:=Ip h0 (by omega)
 have hcv:(convert 22 9 (.slice (some ⟨w.heap.size,0,none⟩) 1 1)).run Tryz.prog (w.alloc (.cells #[.int .u8 (97+s)] 5))= .ok (.string ⟨[sgn s].toArray⟩) (w.alloc (.cells #[.int .u8 (97+s)] 5)):=
  vg _ _ _ (by rw[hd];exact(fU.new w 5 #[.int .u8 (97+s)]).cell 0)
 clear hd;go_enter Tryz.func209,Tryz.ntmps209;go_wp2;go_ret;exact⟨rfl,(ai _ _).alloc (aA _) _⟩
end Go.Proofs.YtkmcengmglgdeaaGreatDoor
