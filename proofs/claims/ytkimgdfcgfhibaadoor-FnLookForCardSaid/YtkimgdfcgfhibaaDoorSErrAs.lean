/- errors.As of the program, at a target of type *deedBreaks: nothing for no error; for an error of that type: yes. -/
import Derived.Test.YtkimgdfcgfhibaaDoorSNumL
import Derived.LaidEql
import Derived.Stop.Asserts
import Derived.RowKitTokens
namespace Go.Proofs.YtkimgdfcgfhibaaDoor
set_option linter.unusedVariables false
set_option linter.unusedSimpArgs false
open Go.RowKit Go.Extern.Stop Go.Stop Go.Extern
theorem as_nil (t : Value) (w : World) :
    Calls Tryd.prog 39 #[.nilIface, t] w fun e w' => e = .returned (.bool false) ∧ w' = w := by
  go_enter Tryd.func39, Tryd.ntmps39
  go_wp2
  go_ret
  exact ⟨rfl, rfl⟩
def dbP : Value := .pointer (some ⟨1, 67, none⟩)
def dbT : Value := .pointer (some ⟨1, 62, none⟩)
theorem dbValueOfP (t : Addr) (w : World) : (ReflectliteValue.unpack (.iface 67 (.pointer (some t)))).run Tryd.prog w
    = .ok (.agg #[.pointer (some ⟨1, 67, none⟩), .pointer (some ⟨w.heap.size, 0, none⟩), .int .u64 150]) (w.alloc (.cells #[.pointer (some t)] 67)) := by kernel_rfl
theorem dbTypeP (a : Addr) (w : World) : (ReflectliteValue.methodAny (ReflectliteValue.valueError "reflectlite.Value.Type" 0) (fun t _ _ _ => ReflectliteType.toType t) #[.agg #[.pointer (some ⟨1, 67, none⟩), .pointer (some a), .int .u64 150]]).run Tryd.prog w
    = .ok (.iface 119 (.agg #[.pointer (some ⟨1, 67, none⟩)])) w := by kernel_rfl
theorem dbMKind (h : Value) (w : World) : (Go.method 262 119 (.agg #[h]) "Kind").run Tryd.prog w = .ok (113, h) w := by kernel_rfl
theorem dbKindP (w : World) : ((ReflectliteType.abiMethod fun t => (fun a : Nat => Value.int IntKind.u8 (a : Int)) <$> Rtype.kind t) #[.pointer (some ⟨1, 67, none⟩)]).run Tryd.prog w = .ok (.int .u8 22) w := by kernel_rfl
theorem dbKindT (w : World) : ((ReflectliteType.abiMethod fun t => (fun a : Nat => Value.int IntKind.u8 (a : Int)) <$> Rtype.kind t) #[.pointer (some ⟨1, 62, none⟩)]).run Tryd.prog w = .ok (.int .u8 25) w := by kernel_rfl
theorem rlMethod (z : Sem Value) (f : TypeId → Addr → Nat → Nat → Sem Value) (v : Value) :
    ReflectliteValue.method z f #[v] = (do match ← ReflectliteValue.parts v with | none => z | some (t, a, fl) => f t a fl (fl % 32)) := rfl
theorem dbPartsP (a : Addr) (w : World) : (ReflectliteValue.parts (.agg #[.pointer (some ⟨1, 67, none⟩), .pointer (some a), .int .u64 150])).run Tryd.prog w = .ok (some (67, a, 150)) w := by kernel_rfl
theorem dbIsNil (a p : Addr) (W : World) (ha : W.cell? a = some (.pointer (some p))) :
    (ReflectliteValue.method (ReflectliteValue.valueError "reflectlite.Value.IsNil" 0) ReflectliteValue.isNil #[.agg #[.pointer (some ⟨1, 67, none⟩), .pointer (some a), .int .u64 150]]).run Tryd.prog W = .ok (.bool false) W := by
  rw [rlMethod]
  simp only [Sem.run_bind, dbPartsP, Result.andThen]
  simp [ReflectliteValue.isNil, loadVar, isAgg, underlying, Tryd.underlying67, ha, Result.andThen]
theorem dbMElem (h : Value) (w : World) : (Go.method 262 119 (.agg #[h]) "Elem").run Tryd.prog w = .ok (123, .agg #[h]) w := by kernel_rfl
theorem dbMImpl (h : Value) (w : World) : (Go.method 262 119 (.agg #[h]) "Implements").run Tryd.prog w = .ok (124, .agg #[h]) w := by kernel_rfl
theorem dbMAssn (h : Value) (w : World) : (Go.method 262 119 (.agg #[h]) "AssignableTo").run Tryd.prog w = .ok (121, .agg #[h]) w := by kernel_rfl
theorem dbElemP (w : World) : (ReflectliteType.method ReflectliteType.elem #[.agg #[.pointer (some ⟨1, 67, none⟩)]]).run Tryd.prog w = .ok (.iface 119 (.agg #[.pointer (some ⟨1, 62, none⟩)])) w := by kernel_rfl
theorem dbImplT (w : World) : (ReflectliteType.relation "Implements" ReflectliteType.implements_ #[.agg #[.pointer (some ⟨1, 62, none⟩)], .iface 119 (.agg #[.pointer (some ⟨1, 65, none⟩)])]).run Tryd.prog w = .ok (.bool true) w := by kernel_rfl
theorem dbTypeOfT (v : Value) (w : World) : (ReflectliteType.typeOf #[.iface 62 v]).run Tryd.prog w = .ok (.iface 119 (.agg #[.pointer (some ⟨1, 62, none⟩)])) w := by kernel_rfl
theorem dbAssnT (w : World) : (ReflectliteType.relation "AssignableTo" ReflectliteType.assignableTo #[.agg #[.pointer (some ⟨1, 62, none⟩)], .iface 119 (.agg #[.pointer (some ⟨1, 62, none⟩)])]).run Tryd.prog w = .ok (.bool true) w := by kernel_rfl
theorem dbValueOfT (x y : Int) (w : World) : (ReflectliteValue.unpack (.iface 62 (.agg #[.int .i64 x, .int .i64 y]))).run Tryd.prog w
    = .ok (.agg #[.pointer (some ⟨1, 62, none⟩), .pointer (some ⟨w.heap.size, 0, none⟩), .int .u64 153]) (w.alloc (.cells #[.int .i64 x, .int .i64 y] 62)) := by kernel_rfl
theorem dbElemOf (w : World) : (Rtype.elem? 67).run Tryd.prog w = .ok (some 62) w := by kernel_rfl
theorem dbMkT (p : Addr) (w : World) : (ReflectliteValue.mk 62 p ReflectliteValue.flagAddr).run Tryd.prog w = .ok (.agg #[.pointer (some ⟨1, 62, none⟩), .pointer (some p), .int .u64 409]) w := by kernel_rfl
theorem dbElemV (a p : Addr) (W : World) (ha : W.cell? a = some (.pointer (some p))) :
    (ReflectliteValue.method (ReflectliteValue.valueError "reflectlite.Value.Elem" 0) ReflectliteValue.elem #[.agg #[.pointer (some ⟨1, 67, none⟩), .pointer (some a), .int .u64 150]]).run Tryd.prog W
      = .ok (.agg #[.pointer (some ⟨1, 62, none⟩), .pointer (some p), .int .u64 409]) W := by
  rw [rlMethod]
  simp only [Sem.run_bind, dbPartsP, Result.andThen]
  simp [ReflectliteValue.elem, loadVar, isAgg, underlying, Tryd.underlying67, ha, Result.andThen, dbElemOf, dbMkT]
theorem rlSet (v x : Value) : ReflectliteValue.set #[v, x] = (do
    let (some (dst, a, fl), some (src, b, _)) := (← ReflectliteValue.parts v, ← ReflectliteValue.parts x)
      | unsupported (.noEntry "extern/(internal/reflectlite.Value).Set.zeroValue")
    if fl / ReflectliteValue.flagAddr % 2 == 0 then unsupported (.noEntry "extern/(internal/reflectlite.Value).Set.unaddressable")
    let val ← loadVar src b
    if ← Rtype.directlyAssignable dst src then storeVar dst a val
    else if ← Rtype.implements dst src then
      if (← Rtype.kind src) == 20 then
        match val with
        | .nilIface => unsupported (.noEntry "extern/reflectlite: a nil value of one interface type handed on as a value of another")
        | _ => storeVar dst a val
      else storeVar dst a (.iface src val)
    else panicString ("reflectlite.Set: value of type " ++ (← Rtype.spelt src) ++ " is not assignable to type " ++ (← Rtype.spelt dst))
    pure (.tuple #[])) := rfl
theorem dbPartsA (a : Addr) (w : World) : (ReflectliteValue.parts (.agg #[.pointer (some ⟨1, 62, none⟩), .pointer (some a), .int .u64 409])).run Tryd.prog w = .ok (some (62, a, 409)) w := by kernel_rfl
theorem dbPartsT (a : Addr) (w : World) : (ReflectliteValue.parts (.agg #[.pointer (some ⟨1, 62, none⟩), .pointer (some a), .int .u64 153])).run Tryd.prog w = .ok (some (62, a, 153)) w := by kernel_rfl
theorem dbDirect (w : World) : (Rtype.directlyAssignable 62 62).run Tryd.prog w = .ok true w := by kernel_rfl
theorem dbSize (w : World) : (sizeOf 62).run Tryd.prog w = .ok 2 w := by kernel_rfl
theorem dbIsAgg (w : World) : (isAgg 62).run Tryd.prog w = .ok true w := by kernel_rfl
theorem dbSet (t b : Nat) (x y : Int) (o1 o2 : Value) (W : World) (hb : W.cell? ⟨b, 0, none⟩ = some (.int .i64 x)) (hb1 : W.cell? ⟨b, 1, none⟩ = some (.int .i64 y)) (ht : W.cell? ⟨t, 0, none⟩ = some o1) (hf : W.frozen? ⟨t, 0, none⟩ = false)
    (ht1 : (W.setCell ⟨t, 0, none⟩ (.int .i64 x)).cell? ⟨t, 1, none⟩ = some o2) (hf1 : (W.setCell ⟨t, 0, none⟩ (.int .i64 x)).frozen? ⟨t, 1, none⟩ = false) :
    (ReflectliteValue.set #[.agg #[.pointer (some ⟨1, 62, none⟩), .pointer (some ⟨t, 0, none⟩), .int .u64 409], .agg #[.pointer (some ⟨1, 62, none⟩), .pointer (some ⟨b, 0, none⟩), .int .u64 153]]).run Tryd.prog W
      = .ok (.tuple #[]) ((W.setCell ⟨t, 0, none⟩ (.int .i64 x)).setCell ⟨t, 1, none⟩ (.int .i64 y)) := by
  have hl : (loadVar 62 ⟨b, 0, none⟩).run Tryd.prog W = .ok (.agg #[.int .i64 x, .int .i64 y]) W := by
    simp [loadVar, dbIsAgg, dbSize, Result.andThen, loadCells, loadCellsFrom, Addr.add, hb, hb1]
  have hs : (storeVar 62 ⟨t, 0, none⟩ (.agg #[.int .i64 x, .int .i64 y])).run Tryd.prog W = .ok () ((W.setCell ⟨t, 0, none⟩ (.int .i64 x)).setCell ⟨t, 1, none⟩ (.int .i64 y)) := by
    simp [storeVar, dbSize, Result.andThen, storeCells, Addr.add, Value.cells]
    rw [run_store Tryd.prog W ⟨t, 0, none⟩ _ _ (by rfl)]
    simp only [ht, hf]
    simp [Result.andThen]
    rw [run_store Tryd.prog _ ⟨t, 1, none⟩ _ _ (by rfl)]
    simp only [ht1, hf1]
    simp
  rw [rlSet]
  simp only [Sem.run_bind, dbPartsA, dbPartsT, Result.andThen]
  simp [ReflectliteValue.flagAddr, hl, dbDirect, hs, Result.andThen]

set_option maxHeartbeats 4000000 in
theorem as_hit (x y : Int) (t : Nat) (o1 o2 : Value) (w : World) (hg : w.cell? ⟨0, 0, none⟩ = some (.iface 119 (.agg #[.pointer (some ⟨1, 65, none⟩)]))) (ht0 : w.cell? ⟨t, 0, none⟩ = some o1) (ht1 : w.cell? ⟨t, 1, none⟩ = some o2) (hf0 : w.frozen? ⟨t, 0, none⟩ = false) (hf1 : w.frozen? ⟨t, 1, none⟩ = false) :
    Calls Tryd.prog 39 #[.iface 62 (.agg #[.int .i64 x, .int .i64 y]), .iface 67 (.pointer (some ⟨t, 0, none⟩))] w fun ev w' => ev = .returned (.bool true) ∧ w' = (((((w.alloc (.cells #[.pointer (some ⟨t, 0, none⟩)] 67)).alloc (.cells #[.pointer (some ⟨1, 67, none⟩), .pointer (some ⟨w.heap.size, 0, none⟩), .int .u64 150] 101)).alloc (.cells #[.pointer (some ⟨1, 67, none⟩), .pointer (some ⟨w.heap.size, 0, none⟩), .int .u64 150] 101)).alloc (.cells #[.int .i64 x, .int .i64 y] 62)).setCell ⟨t, 0, none⟩ (.int .i64 x)).setCell ⟨t, 1, none⟩ (.int .i64 y) := by
  have h6 := @run_callFunc_extern Tryd.prog 73 _ (fun args => ReflectliteValue.unpack (args.getD 0 (.tuple #[]))) Tryd.func73 (by kernel_rfl) (by kernel_rfl) (by kernel_rfl) (by kernel_rfl)
  have h7 := @run_callFunc_extern Tryd.prog 74 _ (ReflectliteValue.methodAny (ReflectliteValue.valueError "reflectlite.Value.Type" 0) (fun t _ _ _ => ReflectliteType.toType t)) Tryd.func74 (by kernel_rfl) (by kernel_rfl) (by kernel_rfl) (by kernel_rfl)
  have h8 := @run_callFunc_extern Tryd.prog 75 _ (ReflectliteValue.method (ReflectliteValue.valueError "reflectlite.Value.IsNil" 0) ReflectliteValue.isNil) Tryd.func75 (by kernel_rfl) (by kernel_rfl) (by kernel_rfl) (by kernel_rfl)
  have h27 := @run_callFunc_extern Tryd.prog 113 _ (ReflectliteType.abiMethod fun t => do pure (.int .u8 (← Rtype.kind t))) Tryd.func113 (by kernel_rfl) (by kernel_rfl) (by kernel_rfl) (by kernel_rfl)
  have h37 := @run_callFunc_extern Tryd.prog 123 _ (ReflectliteType.method ReflectliteType.elem) Tryd.func123 (by kernel_rfl) (by kernel_rfl) (by kernel_rfl) (by kernel_rfl)
  have h38 := @run_callFunc_extern Tryd.prog 124 _ (ReflectliteType.relation "Implements" ReflectliteType.implements_) Tryd.func124 (by kernel_rfl) (by kernel_rfl) (by kernel_rfl) (by kernel_rfl)
  have h10 := @run_callFunc_extern Tryd.prog 93 _ ReflectliteType.typeOf Tryd.func93 (by kernel_rfl) (by kernel_rfl) (by kernel_rfl) (by kernel_rfl)
  have h35 := @run_callFunc_extern Tryd.prog 121 _ (ReflectliteType.relation "AssignableTo" ReflectliteType.assignableTo) Tryd.func121 (by kernel_rfl) (by kernel_rfl) (by kernel_rfl) (by kernel_rfl)
  have h11 := @run_callFunc_extern Tryd.prog 94 _ (ReflectliteValue.method (ReflectliteValue.valueError "reflectlite.Value.Elem" 0) ReflectliteValue.elem) Tryd.func94 (by kernel_rfl) (by kernel_rfl) (by kernel_rfl) (by kernel_rfl)
  have h12 := @run_callFunc_extern Tryd.prog 95 _ ReflectliteValue.set Tryd.func95 (by kernel_rfl) (by kernel_rfl) (by kernel_rfl) (by kernel_rfl)
  have tO := dbTypeOfT
  have mA := dbMAssn
  have a25 := dbAssnT
  have v25 := dbValueOfT
  have f6 := dbValueOfP
  have f7 := dbTypeP
  have mK := dbMKind
  have mE := dbMElem
  have mI := dbMImpl
  have k27 := dbKindP
  have k25 := dbKindT
  have e27 := dbElemP
  have i25 := dbImplT
  have n8 := dbIsNil ⟨w.heap.size, 0, none⟩ ⟨t, 0, none⟩ ((w.alloc (.cells #[.pointer (some ⟨t, 0, none⟩)] 67)).alloc (.cells #[.pointer (some ⟨1, 67, none⟩), .pointer (some ⟨w.heap.size, 0, none⟩), .int .u64 150] 101)) (by simp)
  have hlt : 0 < w.heap.size := by
    rcases Nat.eq_zero_or_pos w.heap.size with h0 | h
    · simp [World.cell?, h0] at hg
    · exact h
  have hg2 : ((w.alloc (.cells #[.pointer (some ⟨t, 0, none⟩)] 67)).alloc (.cells #[.pointer (some ⟨1, 67, none⟩), .pointer (some ⟨w.heap.size, 0, none⟩), .int .u64 150] 101)).cell? ⟨0, 0, none⟩ = some (.iface 119 (.agg #[.pointer (some ⟨1, 65, none⟩)])) := by
    rw [World.cell?_alloc_lt _ _ ⟨0, 0, none⟩ (by simp), World.cell?_alloc_lt _ _ ⟨0, 0, none⟩ hlt]; exact hg
  have htl : t < w.heap.size := by
    rcases Nat.lt_or_ge t w.heap.size with h | h
    · exact h
    · simp [World.cell?, Array.getElem?_eq_none h] at ht0
  have el := dbElemV ⟨w.heap.size, 0, none⟩ ⟨t, 0, none⟩ (((w.alloc (.cells #[.pointer (some ⟨t, 0, none⟩)] 67)).alloc (.cells #[.pointer (some ⟨1, 67, none⟩), .pointer (some ⟨w.heap.size, 0, none⟩), .int .u64 150] 101)).alloc (.cells #[.pointer (some ⟨1, 67, none⟩), .pointer (some ⟨w.heap.size, 0, none⟩), .int .u64 150] 101)) (by rw [World.cell?_alloc_lt _ _ ⟨w.heap.size, 0, none⟩ (by simp; omega)]; simp)
  have st := dbSet t (w.heap.size + 1 + 1 + 1) x y o1 o2 ((((w.alloc (.cells #[.pointer (some ⟨t, 0, none⟩)] 67)).alloc (.cells #[.pointer (some ⟨1, 67, none⟩), .pointer (some ⟨w.heap.size, 0, none⟩), .int .u64 150] 101)).alloc (.cells #[.pointer (some ⟨1, 67, none⟩), .pointer (some ⟨w.heap.size, 0, none⟩), .int .u64 150] 101)).alloc (.cells #[.int .i64 x, .int .i64 y] 62))
    (by rw [World.cell?_alloc_at _ _ _ _ (by simp)]; rfl)
    (by rw [World.cell?_alloc_at _ _ _ _ (by simp)]; rfl)
    (by rw [World.cell?_alloc_lt _ _ ⟨t, 0, none⟩ (by simp; omega), World.cell?_alloc_lt _ _ ⟨t, 0, none⟩ (by simp; omega), World.cell?_alloc_lt _ _ ⟨t, 0, none⟩ (by simp; omega), World.cell?_alloc_lt _ _ ⟨t, 0, none⟩ htl]; exact ht0)
    (by rw [World.frozen?_alloc_old _ _ ⟨t, 0, none⟩ (by simp; omega), World.frozen?_alloc_old _ _ ⟨t, 0, none⟩ (by simp; omega), World.frozen?_alloc_old _ _ ⟨t, 0, none⟩ (by simp; omega), World.frozen?_alloc_old _ _ ⟨t, 0, none⟩ (Nat.ne_of_lt htl)]; exact hf0)
    (by rw [World.cell?_setCell_other _ ⟨t, 0, none⟩ ⟨t, 1, none⟩ _ (by simp), World.cell?_alloc_lt _ _ ⟨t, 1, none⟩ (by simp; omega), World.cell?_alloc_lt _ _ ⟨t, 1, none⟩ (by simp; omega), World.cell?_alloc_lt _ _ ⟨t, 1, none⟩ (by simp; omega), World.cell?_alloc_lt _ _ ⟨t, 1, none⟩ htl]; exact ht1)
    (by rw [World.frozen?_setCell, World.frozen?_alloc_old _ _ ⟨t, 1, none⟩ (by simp; omega), World.frozen?_alloc_old _ _ ⟨t, 1, none⟩ (by simp; omega), World.frozen?_alloc_old _ _ ⟨t, 1, none⟩ (by simp; omega), World.frozen?_alloc_old _ _ ⟨t, 1, none⟩ (Nat.ne_of_lt htl)]; exact hf1)
  go_enter Tryd.func39, Tryd.ntmps39
  go_wp2
  refine wp_loop_rounds 1 ?_
  rw [rounds_succ]
  go_wp2
  go_ret
  exact ⟨rfl, rfl⟩
/-- the variable errors.errorType holds what the program's text lays -/
def ErrH (w : World) : Prop := w.cell? ⟨0, 0, none⟩ = some (.iface 119 (.agg #[.pointer (some ⟨1, 65, none⟩)]))
theorem ErrH.up {w w' : World} (h : ErrH w) (hb : Below w.heap.size w w') : ErrH w' := by
  have hlt : 0 < w.heap.size := by
    rcases Nat.eq_zero_or_pos w.heap.size with h0 | h1
    · unfold ErrH at h; simp [World.cell?, h0] at h
    · exact h1
  exact (hb.cell (p := ⟨0, 0, none⟩) hlt).trans h
theorem as_hit_any (x y : Int) (t B : Nat) (o1 o2 : Value) (w : World) (hg : ErrH w) (ht : Blk w t 62 #[o1, o2]) (hB : B ≤ t) :
    Calls Tryd.prog 39 #[.iface 62 (.agg #[.int .i64 x, .int .i64 y]), .iface 67 (.pointer (some ⟨t, 0, none⟩))] w fun ev w' => ev = .returned (.bool true) ∧ Below B w w' := by
  have hl := ht.lt
  refine (as_hit x y t o1 o2 w hg (ht.cell 0) (ht.cell 1) (ht.frozen 0) (ht.frozen 1)).mono ?_
  rintro e w' ⟨rfl, rfl⟩
  refine ⟨rfl, ?_⟩
  refine Below.setCell (Below.setCell (Below.alloc (Below.alloc (Below.alloc (Below.alloc (Below.refl _ _) (by omega) _) (by simp; omega) _) (by simp; omega) _) (by simp; omega) _) hB _) hB _
end Go.Proofs.YtkimgdfcgfhibaaDoor
