/- Joined texts: JourP, JourW, NumsP, NumL, Under, ErrAs. -/
import Derived.Test.YtkmcengmglgdeaaGreatDoorSActR
import Derived.Test.YtkmcengmglgdeaaGreatDoorSBuilder
import Derived.Test.YtkmcengmglgdeaaGreatDoorSNextW
import Derived.Test.YtkmcengmglgdeaaGreatDoorSBack
import Derived.Test.YtkmcengmglgdeaaGreatDoorSDraw
import Derived.LaidEql
import Derived.Stop.Asserts
import Derived.RowKitTokens

namespace Go.Proofs.YtkmcengmglgdeaaGreatDoor
set_option linter.unusedVariables false
set_option linter.unusedSimpArgs false
set_option maxRecDepth 100000
set_option maxHeartbeats 8000000
def aT (a : ActD) : List UInt8 := actT a.kind a.number
def aL (a : ActD) : List UInt8 := aT a ++ [10]
def jT (aa : List ActD) : List UInt8 := if aa.all (fun a => aT a != []) = true then aa.flatMap aL else []
def dP (aa : List ActD) : List (Int × Int) := aa.map fun a => (a.kind, a.number)
def rJ (s : List UInt8) : List ActD := dL (readJ [] s).1
def rN (s : List UInt8) : Nat := (readJ [] s).2
open Go.ChangeShapes Go.WideShapes Go.ChangeAt Go.RowKit
theorem IsB.later {B b : Nat} {l : List UInt8} {w w' : World} (h : IsB B b l w) (hb : Below w.heap.size w w') : IsB B b l w' := by
 rcases h with h | h
 ·refine .inl ?_; obtain ⟨hB, v, hbk, hown, hne⟩ := h; have hlt : b < w.heap.size := (Array.getElem?_eq_some_iff.1 hbk).1; exact ⟨hB, v, (hb.block b hlt).trans hbk, ownsRow_heap hown fun k hk => hb.block k (hown.lt k hk).2, hne⟩
 ·refine .inr ?_; obtain ⟨hB, v, hbk, hown, hne⟩ := h; have hlt : b < w.heap.size := (Array.getElem?_eq_some_iff.1 hbk).1; exact ⟨hB, v, (hb.block b hlt).trans hbk, ownsRow_heap hown fun k hk => hb.block k (hown.lt k hk).2, hne⟩
def xv (xs : List Int) (s : Nat) : Int := xs.getD s 0
def numRow (t : TaskD) (xs : List Int) (s : Nat) : Bool :=
 decide (0 ≤ xv xs s ∧ xv xs s ≤ 40) && (!(evalCode t.goal s) || xv xs s == 0) && t.deeds.all fun d => (deedDo d s).all fun s' => decide (xv xs s - 1 ≤ xv xs s')
def numsOk (t : TaskD) (xs : List Int) : Bool := taskOk t && decide (xs.length = 32) && (List.range 32).all (numRow t xs)
structure NumsOk (t : TaskD) (xs : List Int) : Prop where
 ok : taskOk t = true
 len : xs.length = 32
 bd : ∀ s, s < 32 → 0 ≤ xv xs s ∧ xv xs s ≤ 40
 goal : ∀ s, s < 32 → evalCode t.goal s = true → xv xs s = 0
 step : ∀ s, s < 32 → ∀ d ∈ t.deeds, ∀ s', deedDo d s = some s' → xv xs s - 1 ≤ xv xs s'
def up40 (xs : List Int) : List Int := xs.map fun x => if x < 0 then 40 else x
def numsFor (t : TaskD) : List Int := if taskOk t then up40 ((List.range 32).map (stpV t.deeds (evalCode t.goal))) else []
def mustP (t : TaskD) (xs : List Int) (s : Nat) : Bool :=
 decide (0 ≤ dstV t.deeds (only t.start.toNat) s) && (decide (stpV t.deeds (evalCode t.goal) t.start.toNat < 0) && decide (xv xs s < 40) || decide (dstV t.deeds (only t.start.toNat) s + xv xs s < stpV t.deeds (evalCode t.goal) t.start.toNat))
def mustN (t : TaskD) (xs : List Int) : Nat := cnt (mustP t xs) 32
def mustLook (t : TaskD) (xs : List Int) : Int := if numsOk t xs then (mustN t xs : Int) else -1
def rowTo (ds : List DeedD) (xs : List Int) (s k : Nat) : Prop := ∀ (j : Nat) (d : DeedD) (q : Nat), j < k → ds[j]? = some d → deedDo d s = some q → xv xs s - 1 ≤ xv xs q
def rowsTo (t : TaskD) (xs : List Int) (m : Nat) : Prop := ∀ s, s < m → numRow t xs s = true
def fixV (x : Int) : Int := if x < 0 then 40 else x
def underOk (ds : List DeedD) (xs : List Int) : Prop := ∀ (k : Nat) (d : DeedD) (s q : Nat), ds[k]? = some d → s < 32 → deedDo d s = some q → xv xs s - 1 ≤ xv xs q
def underTo (ds : List DeedD) (xs : List Int) (k m : Nat) : Prop := ∀ (j : Nat) (d : DeedD) (s q : Nat), ds[j]? = some d → s < 32 → (j < k ∨ j = k ∧ s < m) → deedDo d s = some q → xv xs s - 1 ≤ xv xs q
def underErr (ds : List DeedD) (xs : List Int) (e : Ending) : Prop := underOk ds xs ∧ e = .returned .nilIface ∨ ¬ underOk ds xs ∧ ∃ a b : Nat, a < 32 ∧ b < 32 ∧ e = .returned (.iface 189 (.agg #[.int .i64 a, .int .i64 b]))
open Go.RowKit Go.Extern.Stop Go.Stop Go.Extern
theorem as_nil (t : Value) (w : World) :
  Calls Tryz.prog 196 #[.nilIface, t] w fun e w' => e = .returned (.bool false) ∧ w' = w := by
 go_enter Tryz.func196, Tryz.ntmps196; go_wp2; go_ret; exact ⟨rfl, rfl⟩
def dbP : Value := .pointer (some ⟨7, 192, none⟩)
def dbT : Value := .pointer (some ⟨7, 189, none⟩)
theorem dbValueOfP (t : Addr) (w : World) : (ReflectliteValue.unpack (.iface 192 (.pointer (some t)))).run Tryz.prog w
  = .ok (.agg #[.pointer (some ⟨7, 192, none⟩), .pointer (some ⟨w.heap.size, 0, none⟩), .int .u64 150]) (w.alloc (.cells #[.pointer (some t)] 192)) := by kernel_rfl
theorem dbTypeP (a : Addr) (w : World) : (ReflectliteValue.methodAny (ReflectliteValue.valueError "reflectlite.Value.Type" 0) (fun t _ _ _ => ReflectliteType.toType t) #[.agg #[.pointer (some ⟨7, 192, none⟩), .pointer (some a), .int .u64 150]]).run Tryz.prog w
  = .ok (.iface 231 (.agg #[.pointer (some ⟨7, 192, none⟩)])) w := by kernel_rfl
theorem dbMKind (h : Value) (w : World) : (Go.method 381 231 (.agg #[h]) "Kind").run Tryz.prog w = .ok (250, h) w := by kernel_rfl
theorem dbKindP (w : World) : ((ReflectliteType.abiMethod fun t => (fun a : Nat => Value.int IntKind.u8 (a : Int)) <$> Rtype.kind t) #[.pointer (some ⟨7, 192, none⟩)]).run Tryz.prog w = .ok (.int .u8 22) w := by kernel_rfl
theorem dbKindT (w : World) : ((ReflectliteType.abiMethod fun t => (fun a : Nat => Value.int IntKind.u8 (a : Int)) <$> Rtype.kind t) #[.pointer (some ⟨7, 189, none⟩)]).run Tryz.prog w = .ok (.int .u8 25) w := by kernel_rfl
theorem rlMethod (z : Sem Value) (f : TypeId → Addr → Nat → Nat → Sem Value) (v : Value) :
  ReflectliteValue.method z f #[v] = (do match ← ReflectliteValue.parts v with | none => z | some (t, a, fl) => f t a fl (fl % 32)) := rfl
theorem dbPartsP (a : Addr) (w : World) : (ReflectliteValue.parts (.agg #[.pointer (some ⟨7, 192, none⟩), .pointer (some a), .int .u64 150])).run Tryz.prog w = .ok (some (192, a, 150)) w := by kernel_rfl
theorem dbIsNil (a p : Addr) (W : World) (ha : W.cell? a = some (.pointer (some p))) :
  (ReflectliteValue.method (ReflectliteValue.valueError "reflectlite.Value.IsNil" 0) ReflectliteValue.isNil #[.agg #[.pointer (some ⟨7, 192, none⟩), .pointer (some a), .int .u64 150]]).run Tryz.prog W = .ok (.bool false) W := by
 rw [rlMethod]; simp only [Sem.run_bind, dbPartsP, Result.andThen]
 simp [ReflectliteValue.isNil, loadVar, isAgg, underlying, Tryz.underlying192, ha, Result.andThen]
theorem dbMElem (h : Value) (w : World) : (Go.method 381 231 (.agg #[h]) "Elem").run Tryz.prog w = .ok (264, .agg #[h]) w := by kernel_rfl
theorem dbMImpl (h : Value) (w : World) : (Go.method 381 231 (.agg #[h]) "Implements").run Tryz.prog w = .ok (265, .agg #[h]) w := by kernel_rfl
theorem dbMAssn (h : Value) (w : World) : (Go.method 381 231 (.agg #[h]) "AssignableTo").run Tryz.prog w = .ok (262, .agg #[h]) w := by kernel_rfl
theorem dbElemP (w : World) : (ReflectliteType.method ReflectliteType.elem #[.agg #[.pointer (some ⟨7, 192, none⟩)]]).run Tryz.prog w = .ok (.iface 231 (.agg #[.pointer (some ⟨7, 189, none⟩)])) w := by kernel_rfl
theorem dbImplT (w : World) : (ReflectliteType.relation "Implements" ReflectliteType.implements_ #[.agg #[.pointer (some ⟨7, 189, none⟩)], .iface 231 (.agg #[.pointer (some ⟨7, 119, none⟩)])]).run Tryz.prog w = .ok (.bool true) w := by kernel_rfl
theorem dbTypeOfT (v : Value) (w : World) : (ReflectliteType.typeOf #[.iface 189 v]).run Tryz.prog w = .ok (.iface 231 (.agg #[.pointer (some ⟨7, 189, none⟩)])) w := by kernel_rfl
theorem dbAssnT (w : World) : (ReflectliteType.relation "AssignableTo" ReflectliteType.assignableTo #[.agg #[.pointer (some ⟨7, 189, none⟩)], .iface 231 (.agg #[.pointer (some ⟨7, 189, none⟩)])]).run Tryz.prog w = .ok (.bool true) w := by kernel_rfl
theorem dbValueOfT (x y : Int) (w : World) : (ReflectliteValue.unpack (.iface 189 (.agg #[.int .i64 x, .int .i64 y]))).run Tryz.prog w
  = .ok (.agg #[.pointer (some ⟨7, 189, none⟩), .pointer (some ⟨w.heap.size, 0, none⟩), .int .u64 153]) (w.alloc (.cells #[.int .i64 x, .int .i64 y] 189)) := by kernel_rfl
theorem dbElemOf (w : World) : (Rtype.elem? 192).run Tryz.prog w = .ok (some 189) w := by kernel_rfl
theorem dbMkT (p : Addr) (w : World) : (ReflectliteValue.mk 189 p ReflectliteValue.flagAddr).run Tryz.prog w = .ok (.agg #[.pointer (some ⟨7, 189, none⟩), .pointer (some p), .int .u64 409]) w := by kernel_rfl
theorem dbElemV (a p : Addr) (W : World) (ha : W.cell? a = some (.pointer (some p))) :
  (ReflectliteValue.method (ReflectliteValue.valueError "reflectlite.Value.Elem" 0) ReflectliteValue.elem #[.agg #[.pointer (some ⟨7, 192, none⟩), .pointer (some a), .int .u64 150]]).run Tryz.prog W
   = .ok (.agg #[.pointer (some ⟨7, 189, none⟩), .pointer (some p), .int .u64 409]) W := by
 rw [rlMethod]; simp only [Sem.run_bind, dbPartsP, Result.andThen]
 simp [ReflectliteValue.elem, loadVar, isAgg, underlying, Tryz.underlying192, ha, Result.andThen, dbElemOf, dbMkT]
theorem rlSet (v x : Value) : ReflectliteValue.set #[v, x] = (do
  let (some (dst, a, fl), some (src, b, _)) := (← ReflectliteValue.parts v, ← ReflectliteValue.parts x)
   | unsupported (.noEntry "extern/(internal/reflectlite.Value).Set.zeroValue")
  if fl / ReflectliteValue.flagAddr % 2 == 0 then unsupported (.noEntry "extern/(internal/reflectlite.Value).Set.unaddressable")
  let val ← loadVar src b
  if ← Rtype.directlyAssignable dst src then storeVar dst a val
  else if ← Rtype.implements dst src then
   if (← Rtype.kind src) == 20 then
    match val with
    | .nilIface => unsupported (.noEntry "extern/reflectlite: a nil value of one interface type handed on as a value of another")
    | _ => storeVar dst a val
   else storeVar dst a (.iface src val)
  else panicString ("reflectlite.Set: value of type " ++ (← Rtype.spelt src) ++ " is not assignable to type " ++ (← Rtype.spelt dst))
  pure (.tuple #[])) := rfl
theorem dbPartsA (a : Addr) (w : World) : (ReflectliteValue.parts (.agg #[.pointer (some ⟨7, 189, none⟩), .pointer (some a), .int .u64 409])).run Tryz.prog w = .ok (some (189, a, 409)) w := by kernel_rfl
theorem dbPartsT (a : Addr) (w : World) : (ReflectliteValue.parts (.agg #[.pointer (some ⟨7, 189, none⟩), .pointer (some a), .int .u64 153])).run Tryz.prog w = .ok (some (189, a, 153)) w := by kernel_rfl
theorem dbDirect (w : World) : (Rtype.directlyAssignable 189 189).run Tryz.prog w = .ok true w := by kernel_rfl
theorem dbSize (w : World) : (sizeOf 189).run Tryz.prog w = .ok 2 w := by kernel_rfl
theorem dbIsAgg (w : World) : (isAgg 189).run Tryz.prog w = .ok true w := by kernel_rfl
theorem dbSet (t b : Nat) (x y : Int) (o1 o2 : Value) (W : World) (hb : W.cell? ⟨b, 0, none⟩ = some (.int .i64 x)) (hb1 : W.cell? ⟨b, 1, none⟩ = some (.int .i64 y)) (ht : W.cell? ⟨t, 0, none⟩ = some o1) (hf : W.frozen? ⟨t, 0, none⟩ = false)
  (ht1 : (W.setCell ⟨t, 0, none⟩ (.int .i64 x)).cell? ⟨t, 1, none⟩ = some o2) (hf1 : (W.setCell ⟨t, 0, none⟩ (.int .i64 x)).frozen? ⟨t, 1, none⟩ = false) :
  (ReflectliteValue.set #[.agg #[.pointer (some ⟨7, 189, none⟩), .pointer (some ⟨t, 0, none⟩), .int .u64 409], .agg #[.pointer (some ⟨7, 189, none⟩), .pointer (some ⟨b, 0, none⟩), .int .u64 153]]).run Tryz.prog W
   = .ok (.tuple #[]) ((W.setCell ⟨t, 0, none⟩ (.int .i64 x)).setCell ⟨t, 1, none⟩ (.int .i64 y)) := by
 have hl : (loadVar 189 ⟨b, 0, none⟩).run Tryz.prog W = .ok (.agg #[.int .i64 x, .int .i64 y]) W := by
  simp [loadVar, dbIsAgg, dbSize, Result.andThen, loadCells, loadCellsFrom, Addr.add, hb, hb1]
 have hs : (storeVar 189 ⟨t, 0, none⟩ (.agg #[.int .i64 x, .int .i64 y])).run Tryz.prog W = .ok () ((W.setCell ⟨t, 0, none⟩ (.int .i64 x)).setCell ⟨t, 1, none⟩ (.int .i64 y)) := by
  simp [storeVar, dbSize, Result.andThen, storeCells, Addr.add, Value.cells]
  rw [run_store Tryz.prog W ⟨t, 0, none⟩ _ _ (by rfl)]; simp only [ht, hf]
  simp [Result.andThen]
  rw [run_store Tryz.prog _ ⟨t, 1, none⟩ _ _ (by rfl)]; simp only [ht1, hf1]
  simp
 rw [rlSet]; simp only [Sem.run_bind, dbPartsA, dbPartsT, Result.andThen]
 simp [ReflectliteValue.flagAddr, hl, dbDirect, hs, Result.andThen]
theorem as_hit (x y : Int) (t : Nat) (o1 o2 : Value) (w : World) (hg : w.cell? ⟨1, 0, none⟩ = some (.iface 231 (.agg #[.pointer (some ⟨7, 119, none⟩)]))) (ht0 : w.cell? ⟨t, 0, none⟩ = some o1) (ht1 : w.cell? ⟨t, 1, none⟩ = some o2) (hf0 : w.frozen? ⟨t, 0, none⟩ = false) (hf1 : w.frozen? ⟨t, 1, none⟩ = false) :
  Calls Tryz.prog 196 #[.iface 189 (.agg #[.int .i64 x, .int .i64 y]), .iface 192 (.pointer (some ⟨t, 0, none⟩))] w fun ev w' => ev = .returned (.bool true) ∧ w' = (((((w.alloc (.cells #[.pointer (some ⟨t, 0, none⟩)] 192)).alloc (.cells #[.pointer (some ⟨7, 192, none⟩), .pointer (some ⟨w.heap.size, 0, none⟩), .int .u64 150] 213)).alloc (.cells #[.pointer (some ⟨7, 192, none⟩), .pointer (some ⟨w.heap.size, 0, none⟩), .int .u64 150] 213)).alloc (.cells #[.int .i64 x, .int .i64 y] 189)).setCell ⟨t, 0, none⟩ (.int .i64 x)).setCell ⟨t, 1, none⟩ (.int .i64 y) := by
 have h6 := @run_callFunc_extern Tryz.prog 213 _ (fun args => ReflectliteValue.unpack (args.getD 0 (.tuple #[]))) Tryz.func213 (by kernel_rfl) (by kernel_rfl) (by kernel_rfl) (by kernel_rfl); have h7 := @run_callFunc_extern Tryz.prog 214 _ (ReflectliteValue.methodAny (ReflectliteValue.valueError "reflectlite.Value.Type" 0) (fun t _ _ _ => ReflectliteType.toType t)) Tryz.func214 (by kernel_rfl) (by kernel_rfl) (by kernel_rfl) (by kernel_rfl); have h8 := @run_callFunc_extern Tryz.prog 215 _ (ReflectliteValue.method (ReflectliteValue.valueError "reflectlite.Value.IsNil" 0) ReflectliteValue.isNil) Tryz.func215 (by kernel_rfl) (by kernel_rfl) (by kernel_rfl) (by kernel_rfl); have h27 := @run_callFunc_extern Tryz.prog 250 _ (ReflectliteType.abiMethod fun t => do pure (.int .u8 (← Rtype.kind t))) Tryz.func250 (by kernel_rfl) (by kernel_rfl) (by kernel_rfl) (by kernel_rfl); have h37 := @run_callFunc_extern Tryz.prog 264 _ (ReflectliteType.method ReflectliteType.elem) Tryz.func264 (by kernel_rfl) (by kernel_rfl) (by kernel_rfl) (by kernel_rfl); have h38 := @run_callFunc_extern Tryz.prog 265 _ (ReflectliteType.relation "Implements" ReflectliteType.implements_) Tryz.func265 (by kernel_rfl) (by kernel_rfl) (by kernel_rfl) (by kernel_rfl); have h10 := @run_callFunc_extern Tryz.prog 227 _ ReflectliteType.typeOf Tryz.func227 (by kernel_rfl) (by kernel_rfl) (by kernel_rfl) (by kernel_rfl); have h35 := @run_callFunc_extern Tryz.prog 262 _ (ReflectliteType.relation "AssignableTo" ReflectliteType.assignableTo) Tryz.func262 (by kernel_rfl) (by kernel_rfl) (by kernel_rfl) (by kernel_rfl); have h11 := @run_callFunc_extern Tryz.prog 228 _ (ReflectliteValue.method (ReflectliteValue.valueError "reflectlite.Value.Elem" 0) ReflectliteValue.elem) Tryz.func228 (by kernel_rfl) (by kernel_rfl) (by kernel_rfl) (by kernel_rfl); have h12 := @run_callFunc_extern Tryz.prog 229 _ ReflectliteValue.set Tryz.func229 (by kernel_rfl) (by kernel_rfl) (by kernel_rfl) (by kernel_rfl); have tO := dbTypeOfT; have mA := dbMAssn; have a25 := dbAssnT; have v25 := dbValueOfT; have f6 := dbValueOfP; have f7 := dbTypeP; have mK := dbMKind; have mE := dbMElem; have mI := dbMImpl; have k27 := dbKindP; have k25 := dbKindT; have e27 := dbElemP; have i25 := dbImplT; have n8 := dbIsNil ⟨w.heap.size, 0, none⟩ ⟨t, 0, none⟩ ((w.alloc (.cells #[.pointer (some ⟨t, 0, none⟩)] 192)).alloc (.cells #[.pointer (some ⟨7, 192, none⟩), .pointer (some ⟨w.heap.size, 0, none⟩), .int .u64 150] 213)) (by simp)
 have hlt : 1 < w.heap.size := by
  rcases Nat.lt_or_ge 1 w.heap.size with h | h0
  ·exact h
  ·simp [World.cell?, Array.getElem?_eq_none h0] at hg
 have hg2 : ((w.alloc (.cells #[.pointer (some ⟨t, 0, none⟩)] 192)).alloc (.cells #[.pointer (some ⟨7, 192, none⟩), .pointer (some ⟨w.heap.size, 0, none⟩), .int .u64 150] 213)).cell? ⟨1, 0, none⟩ = some (.iface 231 (.agg #[.pointer (some ⟨7, 119, none⟩)])) := by
  rw [World.cell?_alloc_lt _ _ ⟨1, 0, none⟩ (by simp; omega), World.cell?_alloc_lt _ _ ⟨1, 0, none⟩ hlt]; exact hg
 have htl : t < w.heap.size := by
  rcases Nat.lt_or_ge t w.heap.size with h | h
  ·exact h
  ·simp [World.cell?, Array.getElem?_eq_none h] at ht0
 have el := dbElemV ⟨w.heap.size, 0, none⟩ ⟨t, 0, none⟩ (((w.alloc (.cells #[.pointer (some ⟨t, 0, none⟩)] 192)).alloc (.cells #[.pointer (some ⟨7, 192, none⟩), .pointer (some ⟨w.heap.size, 0, none⟩), .int .u64 150] 213)).alloc (.cells #[.pointer (some ⟨7, 192, none⟩), .pointer (some ⟨w.heap.size, 0, none⟩), .int .u64 150] 213)) (by rw [World.cell?_alloc_lt _ _ ⟨w.heap.size, 0, none⟩ (by simp; omega)]; simp)
 have st := dbSet t (w.heap.size + 1 + 1 + 1) x y o1 o2 ((((w.alloc (.cells #[.pointer (some ⟨t, 0, none⟩)] 192)).alloc (.cells #[.pointer (some ⟨7, 192, none⟩), .pointer (some ⟨w.heap.size, 0, none⟩), .int .u64 150] 213)).alloc (.cells #[.pointer (some ⟨7, 192, none⟩), .pointer (some ⟨w.heap.size, 0, none⟩), .int .u64 150] 213)).alloc (.cells #[.int .i64 x, .int .i64 y] 189))
  (by rw [World.cell?_alloc_at _ _ _ _ (by simp)]; rfl)
  (by rw [World.cell?_alloc_at _ _ _ _ (by simp)]; rfl)
  (by rw [World.cell?_alloc_lt _ _ ⟨t, 0, none⟩ (by simp; omega), World.cell?_alloc_lt _ _ ⟨t, 0, none⟩ (by simp; omega), World.cell?_alloc_lt _ _ ⟨t, 0, none⟩ (by simp; omega), World.cell?_alloc_lt _ _ ⟨t, 0, none⟩ htl]; exact ht0)
  (by rw [World.frozen?_alloc_old _ _ ⟨t, 0, none⟩ (by simp; omega), World.frozen?_alloc_old _ _ ⟨t, 0, none⟩ (by simp; omega), World.frozen?_alloc_old _ _ ⟨t, 0, none⟩ (by simp; omega), World.frozen?_alloc_old _ _ ⟨t, 0, none⟩ (Nat.ne_of_lt htl)]; exact hf0)
  (by rw [World.cell?_setCell_other _ ⟨t, 0, none⟩ ⟨t, 1, none⟩ _ (by simp), World.cell?_alloc_lt _ _ ⟨t, 1, none⟩ (by simp; omega), World.cell?_alloc_lt _ _ ⟨t, 1, none⟩ (by simp; omega), World.cell?_alloc_lt _ _ ⟨t, 1, none⟩ (by simp; omega), World.cell?_alloc_lt _ _ ⟨t, 1, none⟩ htl]; exact ht1)
  (by rw [World.frozen?_setCell, World.frozen?_alloc_old _ _ ⟨t, 1, none⟩ (by simp; omega), World.frozen?_alloc_old _ _ ⟨t, 1, none⟩ (by simp; omega), World.frozen?_alloc_old _ _ ⟨t, 1, none⟩ (by simp; omega), World.frozen?_alloc_old _ _ ⟨t, 1, none⟩ (Nat.ne_of_lt htl)]; exact hf1)
 go_enter Tryz.func196, Tryz.ntmps196; go_wp2; refine wp_loop_rounds 1 ?_; rw [rounds_succ]; go_wp2; go_ret; exact ⟨rfl, rfl⟩
def ErrH (w : World) : Prop := w.cell? ⟨1, 0, none⟩ = some (.iface 231 (.agg #[.pointer (some ⟨7, 119, none⟩)]))
theorem ErrH.up {w w' : World} (h : ErrH w) (hb : Below w.heap.size w w') : ErrH w' := by
 have hlt : 1 < w.heap.size := by
  rcases Nat.lt_or_ge 1 w.heap.size with h1 | h0
  ·exact h1
  ·unfold ErrH at h; simp [World.cell?, Array.getElem?_eq_none h0] at h
 exact (hb.cell (p := ⟨1, 0, none⟩) hlt).trans h
theorem as_hit_any (x y : Int) (t B : Nat) (o1 o2 : Value) (w : World) (hg : ErrH w) (ht : Blk w t 189 #[o1, o2]) (hB : B ≤ t) :
  Calls Tryz.prog 196 #[.iface 189 (.agg #[.int .i64 x, .int .i64 y]), .iface 192 (.pointer (some ⟨t, 0, none⟩))] w fun ev w' => ev = .returned (.bool true) ∧ Below B w w' := by
 have hl := ht.lt; refine (as_hit x y t o1 o2 w hg (ht.cell 0) (ht.cell 1) (ht.frozen 0) (ht.frozen 1)).mono ?_; rintro e w' ⟨rfl, rfl⟩; refine ⟨rfl, ?_⟩; refine Below.setCell (Below.setCell (Below.alloc (Below.alloc (Below.alloc (Below.alloc (Below.refl _ _) (by omega) _) (by simp; omega) _) (by simp; omega) _) (by simp; omega) _) hB _) hB _
end Go.Proofs.YtkmcengmglgdeaaGreatDoor
