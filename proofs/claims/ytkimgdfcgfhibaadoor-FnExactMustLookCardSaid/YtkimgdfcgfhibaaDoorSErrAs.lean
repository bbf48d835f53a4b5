/- Joined texts: ErrAs, NumOkI. -/
import Derived.Test.YtkimgdfcgfhibaaDoorSNumL
import Derived.LaidEql
import Derived.Stop.Asserts
import Derived.RowKitTokens
import Derived.Test.YtkimgdfcgfhibaaDoorSSearch
/- errors.As of the program, at a target of type *deedBreaks: nothing for no error; for an error of that type: yes. -/
namespace Go.Proofs.YtkimgdfcgfhibaaDoor
set_option linter.unusedVariables false
set_option linter.unusedSimpArgs false
open Go.RowKit Go.Extern.Stop Go.Stop Go.Extern
theorem as_nil (t : Value) (w : World) :
    Calls Tryd.prog 39 #[.nilIface, t] w fun e w' => e = .returned (.bool false) ∧ w' = w := by
  go_enter Tryd.func39, Tryd.ntmps39
  go_wp2
  go_ret
  exact ⟨rfl, rfl⟩
def dbP : Value := .pointer (some ⟨1, 67, none⟩)
def dbT : Value := .pointer (some ⟨1, 62, none⟩)
theorem dbValueOfP (t : Addr) (w : World) : (ReflectliteValue.unpack (.iface 67 (.pointer (some t)))).run Tryd.prog w
    = .ok (.agg #[.pointer (some ⟨1, 67, none⟩), .pointer (some ⟨w.heap.size, 0, none⟩), .int .u64 150]) (w.alloc (.cells #[.pointer (some t)] 67)) := by kernel_rfl
theorem dbTypeP (a : Addr) (w : World) : (ReflectliteValue.methodAny (ReflectliteValue.valueError "reflectlite.Value.Type" 0) (fun t _ _ _ => ReflectliteType.toType t) #[.agg #[.pointer (some ⟨1, 67, none⟩), .pointer (some a), .int .u64 150]]).run Tryd.prog w
    = .ok (.iface 119 (.agg #[.pointer (some ⟨1, 67, none⟩)])) w := by kernel_rfl
theorem dbMKind (h : Value) (w : World) : (Go.method 262 119 (.agg #[h]) "Kind").run Tryd.prog w = .ok (113, h) w := by kernel_rfl
theorem dbKindP (w : World) : ((ReflectliteType.abiMethod fun t => (fun a : Nat => Value.int IntKind.u8 (a : Int)) <$> Rtype.kind t) #[.pointer (some ⟨1, 67, none⟩)]).run Tryd.prog w = .ok (.int .u8 22) w := by kernel_rfl
theorem dbKindT (w : World) : ((ReflectliteType.abiMethod fun t => (fun a : Nat => Value.int IntKind.u8 (a : Int)) <$> Rtype.kind t) #[.pointer (some ⟨1, 62, none⟩)]).run Tryd.prog w = .ok (.int .u8 25) w := by kernel_rfl
theorem rlMethod (z : Sem Value) (f : TypeId → Addr → Nat → Nat → Sem Value) (v : Value) :
    ReflectliteValue.method z f #[v] = (do match ← ReflectliteValue.parts v with | none => z | some (t, a, fl) => f t a fl (fl % 32)) := rfl
theorem dbPartsP (a : Addr) (w : World) : (ReflectliteValue.parts (.agg #[.pointer (some ⟨1, 67, none⟩), .pointer (some a), .int .u64 150])).run Tryd.prog w = .ok (some (67, a, 150)) w := by kernel_rfl
theorem dbIsNil (a p : Addr) (W : World) (ha : W.cell? a = some (.pointer (some p))) :
    (ReflectliteValue.method (ReflectliteValue.valueError "reflectlite.Value.IsNil" 0) ReflectliteValue.isNil #[.agg #[.pointer (some ⟨1, 67, none⟩), .pointer (some a), .int .u64 150]]).run Tryd.prog W = .ok (.bool false) W := by
  rw [rlMethod]
  simp only [Sem.run_bind, dbPartsP, Result.andThen]
  simp [ReflectliteValue.isNil, loadVar, isAgg, underlying, Tryd.underlying67, ha, Result.andThen]
theorem dbMElem (h : Value) (w : World) : (Go.method 262 119 (.agg #[h]) "Elem").run Tryd.prog w = .ok (123, .agg #[h]) w := by kernel_rfl
theorem dbMImpl (h : Value) (w : World) : (Go.method 262 119 (.agg #[h]) "Implements").run Tryd.prog w = .ok (124, .agg #[h]) w := by kernel_rfl
theorem dbMAssn (h : Value) (w : World) : (Go.method 262 119 (.agg #[h]) "AssignableTo").run Tryd.prog w = .ok (121, .agg #[h]) w := by kernel_rfl
theorem dbElemP (w : World) : (ReflectliteType.method ReflectliteType.elem #[.agg #[.pointer (some ⟨1, 67, none⟩)]]).run Tryd.prog w = .ok (.iface 119 (.agg #[.pointer (some ⟨1, 62, none⟩)])) w := by kernel_rfl
theorem dbImplT (w : World) : (ReflectliteType.relation "Implements" ReflectliteType.implements_ #[.agg #[.pointer (some ⟨1, 62, none⟩)], .iface 119 (.agg #[.pointer (some ⟨1, 65, none⟩)])]).run Tryd.prog w = .ok (.bool true) w := by kernel_rfl
theorem dbTypeOfT (v : Value) (w : World) : (ReflectliteType.typeOf #[.iface 62 v]).run Tryd.prog w = .ok (.iface 119 (.agg #[.pointer (some ⟨1, 62, none⟩)])) w := by kernel_rfl
theorem dbAssnT (w : World) : (ReflectliteType.relation "AssignableTo" ReflectliteType.assignableTo #[.agg #[.pointer (some ⟨1, 62, none⟩)], .iface 119 (.agg #[.pointer (some ⟨1, 62, none⟩)])]).run Tryd.prog w = .ok (.bool true) w := by kernel_rfl
theorem dbValueOfT (x y : Int) (w : World) : (ReflectliteValue.unpack (.iface 62 (.agg #[.int .i64 x, .int .i64 y]))).run Tryd.prog w
    = .ok (.agg #[.pointer (some ⟨1, 62, none⟩), .pointer (some ⟨w.heap.size, 0, none⟩), .int .u64 153]) (w.alloc (.cells #[.int .i64 x, .int .i64 y] 62)) := by kernel_rfl
theorem dbElemOf (w : World) : (Rtype.elem? 67).run Tryd.prog w = .ok (some 62) w := by kernel_rfl
theorem dbMkT (p : Addr) (w : World) : (ReflectliteValue.mk 62 p ReflectliteValue.flagAddr).run Tryd.prog w = .ok (.agg #[.pointer (some ⟨1, 62, none⟩), .pointer (some p), .int .u64 409]) w := by kernel_rfl
theorem dbElemV (a p : Addr) (W : World) (ha : W.cell? a = some (.pointer (some p))) :
    (ReflectliteValue.method (ReflectliteValue.valueError "reflectlite.Value.Elem" 0) ReflectliteValue.elem #[.agg #[.pointer (some ⟨1, 67, none⟩), .pointer (some a), .int .u64 150]]).run Tryd.prog W
      = .ok (.agg #[.pointer (some ⟨1, 62, none⟩), .pointer (some p), .int .u64 409]) W := by
  rw [rlMethod]
  simp only [Sem.run_bind, dbPartsP, Result.andThen]
  simp [ReflectliteValue.elem, loadVar, isAgg, underlying, Tryd.underlying67, ha, Result.andThen, dbElemOf, dbMkT]
theorem rlSet (v x : Value) : ReflectliteValue.set #[v, x] = (do
    let (some (dst, a, fl), some (src, b, _)) := (← ReflectliteValue.parts v, ← ReflectliteValue.parts x)
      | unsupported (.noEntry "extern/(internal/reflectlite.Value).Set.zeroValue")
    if fl / ReflectliteValue.flagAddr % 2 == 0 then unsupported (.noEntry "extern/(internal/reflectlite.Value).Set.unaddressable")
    let val ← loadVar src b
    if ← Rtype.directlyAssignable dst src then storeVar dst a val
    else if ← Rtype.implements dst src then
      if (← Rtype.kind src) == 20 then
        match val with
        | .nilIface => unsupported (.noEntry "extern/reflectlite: a nil value of one interface type handed on as a value of another")
        | _ => storeVar dst a val
      else storeVar dst a (.iface src val)
    else panicString ("reflectlite.Set: value of type " ++ (← Rtype.spelt src) ++ " is not assignable to type " ++ (← Rtype.spelt dst))
    pure (.tuple #[])) := rfl
theorem dbPartsA (a : Addr) (w : World) : (ReflectliteValue.parts (.agg #[.pointer (some ⟨1, 62, none⟩), .pointer (some a), .int .u64 409])).run Tryd.prog w = .ok (some (62, a, 409)) w := by kernel_rfl
theorem dbPartsT (a : Addr) (w : World) : (ReflectliteValue.parts (.agg #[.pointer (some ⟨1, 62, none⟩), .pointer (some a), .int .u64 153])).run Tryd.prog w = .ok (some (62, a, 153)) w := by kernel_rfl
theorem dbDirect (w : World) : (Rtype.directlyAssignable 62 62).run Tryd.prog w = .ok true w := by kernel_rfl
theorem dbSize (w : World) : (sizeOf 62).run Tryd.prog w = .ok 2 w := by kernel_rfl
theorem dbIsAgg (w : World) : (isAgg 62).run Tryd.prog w = .ok true w := by kernel_rfl
theorem dbSet (t b : Nat) (x y : Int) (o1 o2 : Value) (W : World) (hb : W.cell? ⟨b, 0, none⟩ = some (.int .i64 x)) (hb1 : W.cell? ⟨b, 1, none⟩ = some (.int .i64 y)) (ht : W.cell? ⟨t, 0, none⟩ = some o1) (hf : W.frozen? ⟨t, 0, none⟩ = false)
    (ht1 : (W.setCell ⟨t, 0, none⟩ (.int .i64 x)).cell? ⟨t, 1, none⟩ = some o2) (hf1 : (W.setCell ⟨t, 0, none⟩ (.int .i64 x)).frozen? ⟨t, 1, none⟩ = false) :
    (ReflectliteValue.set #[.agg #[.pointer (some ⟨1, 62, none⟩), .pointer (some ⟨t, 0, none⟩), .int .u64 409], .agg #[.pointer (some ⟨1, 62, none⟩), .pointer (some ⟨b, 0, none⟩), .int .u64 153]]).run Tryd.prog W
      = .ok (.tuple #[]) ((W.setCell ⟨t, 0, none⟩ (.int .i64 x)).setCell ⟨t, 1, none⟩ (.int .i64 y)) := by
  have hl : (loadVar 62 ⟨b, 0, none⟩).run Tryd.prog W = .ok (.agg #[.int .i64 x, .int .i64 y]) W := by
    simp [loadVar, dbIsAgg, dbSize, Result.andThen, loadCells, loadCellsFrom, Addr.add, hb, hb1]
  have hs : (storeVar 62 ⟨t, 0, none⟩ (.agg #[.int .i64 x, .int .i64 y])).run Tryd.prog W = .ok () ((W.setCell ⟨t, 0, none⟩ (.int .i64 x)).setCell ⟨t, 1, none⟩ (.int .i64 y)) := by
    simp [storeVar, dbSize, Result.andThen, storeCells, Addr.add, Value.cells]
    rw [run_store Tryd.prog W ⟨t, 0, none⟩ _ _ (by rfl)]
    simp only [ht, hf]
    simp [Result.andThen]
    rw [run_store Tryd.prog _ ⟨t, 1, none⟩ _ _ (by rfl)]
    simp only [ht1, hf1]
    simp
  rw [rlSet]
  simp only [Sem.run_bind, dbPartsA, dbPartsT, Result.andThen]
  simp [ReflectliteValue.flagAddr, hl, dbDirect, hs, Result.andThen]

set_option maxHeartbeats 4000000 in
theorem as_hit (x y : Int) (t : Nat) (o1 o2 : Value) (w : World) (hg : w.cell? ⟨0, 0, none⟩ = some (.iface 119 (.agg #[.pointer (some ⟨1, 65, none⟩)]))) (ht0 : w.cell? ⟨t, 0, none⟩ = some o1) (ht1 : w.cell? ⟨t, 1, none⟩ = some o2) (hf0 : w.frozen? ⟨t, 0, none⟩ = false) (hf1 : w.frozen? ⟨t, 1, none⟩ = false) :
    Calls Tryd.prog 39 #[.iface 62 (.agg #[.int .i64 x, .int .i64 y]), .iface 67 (.pointer (some ⟨t, 0, none⟩))] w fun ev w' => ev = .returned (.bool true) ∧ w' = (((((w.alloc (.cells #[.pointer (some ⟨t, 0, none⟩)] 67)).alloc (.cells #[.pointer (some ⟨1, 67, none⟩), .pointer (some ⟨w.heap.size, 0, none⟩), .int .u64 150] 101)).alloc (.cells #[.pointer (some ⟨1, 67, none⟩), .pointer (some ⟨w.heap.size, 0, none⟩), .int .u64 150] 101)).alloc (.cells #[.int .i64 x, .int .i64 y] 62)).setCell ⟨t, 0, none⟩ (.int .i64 x)).setCell ⟨t, 1, none⟩ (.int .i64 y) := by
  have h6 := @run_callFunc_extern Tryd.prog 73 _ (fun args => ReflectliteValue.unpack (args.getD 0 (.tuple #[]))) Tryd.func73 (by kernel_rfl) (by kernel_rfl) (by kernel_rfl) (by kernel_rfl)
  have h7 := @run_callFunc_extern Tryd.prog 74 _ (ReflectliteValue.methodAny (ReflectliteValue.valueError "reflectlite.Value.Type" 0) (fun t _ _ _ => ReflectliteType.toType t)) Tryd.func74 (by kernel_rfl) (by kernel_rfl) (by kernel_rfl) (by kernel_rfl)
  have h8 := @run_callFunc_extern Tryd.prog 75 _ (ReflectliteValue.method (ReflectliteValue.valueError "reflectlite.Value.IsNil" 0) ReflectliteValue.isNil) Tryd.func75 (by kernel_rfl) (by kernel_rfl) (by kernel_rfl) (by kernel_rfl)
  have h27 := @run_callFunc_extern Tryd.prog 113 _ (ReflectliteType.abiMethod fun t => do pure (.int .u8 (← Rtype.kind t))) Tryd.func113 (by kernel_rfl) (by kernel_rfl) (by kernel_rfl) (by kernel_rfl)
  have h37 := @run_callFunc_extern Tryd.prog 123 _ (ReflectliteType.method ReflectliteType.elem) Tryd.func123 (by kernel_rfl) (by kernel_rfl) (by kernel_rfl) (by kernel_rfl)
  have h38 := @run_callFunc_extern Tryd.prog 124 _ (ReflectliteType.relation "Implements" ReflectliteType.implements_) Tryd.func124 (by kernel_rfl) (by kernel_rfl) (by kernel_rfl) (by kernel_rfl)
  have h10 := @run_callFunc_extern Tryd.prog 93 _ ReflectliteType.typeOf Tryd.func93 (by kernel_rfl) (by kernel_rfl) (by kernel_rfl) (by kernel_rfl)
  have h35 := @run_callFunc_extern Tryd.prog 121 _ (ReflectliteType.relation "AssignableTo" ReflectliteType.assignableTo) Tryd.func121 (by kernel_rfl) (by kernel_rfl) (by kernel_rfl) (by kernel_rfl)
  have h11 := @run_callFunc_extern Tryd.prog 94 _ (ReflectliteValue.method (ReflectliteValue.valueError "reflectlite.Value.Elem" 0) ReflectliteValue.elem) Tryd.func94 (by kernel_rfl) (by kernel_rfl) (by kernel_rfl) (by kernel_rfl)
  have h12 := @run_callFunc_extern Tryd.prog 95 _ ReflectliteValue.set Tryd.func95 (by kernel_rfl) (by kernel_rfl) (by kernel_rfl) (by kernel_rfl)
  have tO := dbTypeOfT
  have mA := dbMAssn
  have a25 := dbAssnT
  have v25 := dbValueOfT
  have f6 := dbValueOfP
  have f7 := dbTypeP
  have mK := dbMKind
  have mE := dbMElem
  have mI := dbMImpl
  have k27 := dbKindP
  have k25 := dbKindT
  have e27 := dbElemP
  have i25 := dbImplT
  have n8 := dbIsNil ⟨w.heap.size, 0, none⟩ ⟨t, 0, none⟩ ((w.alloc (.cells #[.pointer (some ⟨t, 0, none⟩)] 67)).alloc (.cells #[.pointer (some ⟨1, 67, none⟩), .pointer (some ⟨w.heap.size, 0, none⟩), .int .u64 150] 101)) (by simp)
  have hlt : 0 < w.heap.size := by
    rcases Nat.eq_zero_or_pos w.heap.size with h0 | h
    · simp [World.cell?, h0] at hg
    · exact h
  have hg2 : ((w.alloc (.cells #[.pointer (some ⟨t, 0, none⟩)] 67)).alloc (.cells #[.pointer (some ⟨1, 67, none⟩), .pointer (some ⟨w.heap.size, 0, none⟩), .int .u64 150] 101)).cell? ⟨0, 0, none⟩ = some (.iface 119 (.agg #[.pointer (some ⟨1, 65, none⟩)])) := by
    rw [World.cell?_alloc_lt _ _ ⟨0, 0, none⟩ (by simp), World.cell?_alloc_lt _ _ ⟨0, 0, none⟩ hlt]; exact hg
  have htl : t < w.heap.size := by
    rcases Nat.lt_or_ge t w.heap.size with h | h
    · exact h
    · simp [World.cell?, Array.getElem?_eq_none h] at ht0
  have el := dbElemV ⟨w.heap.size, 0, none⟩ ⟨t, 0, none⟩ (((w.alloc (.cells #[.pointer (some ⟨t, 0, none⟩)] 67)).alloc (.cells #[.pointer (some ⟨1, 67, none⟩), .pointer (some ⟨w.heap.size, 0, none⟩), .int .u64 150] 101)).alloc (.cells #[.pointer (some ⟨1, 67, none⟩), .pointer (some ⟨w.heap.size, 0, none⟩), .int .u64 150] 101)) (by rw [World.cell?_alloc_lt _ _ ⟨w.heap.size, 0, none⟩ (by simp; omega)]; simp)
  have st := dbSet t (w.heap.size + 1 + 1 + 1) x y o1 o2 ((((w.alloc (.cells #[.pointer (some ⟨t, 0, none⟩)] 67)).alloc (.cells #[.pointer (some ⟨1, 67, none⟩), .pointer (some ⟨w.heap.size, 0, none⟩), .int .u64 150] 101)).alloc (.cells #[.pointer (some ⟨1, 67, none⟩), .pointer (some ⟨w.heap.size, 0, none⟩), .int .u64 150] 101)).alloc (.cells #[.int .i64 x, .int .i64 y] 62))
    (by rw [World.cell?_alloc_at _ _ _ _ (by simp)]; rfl)
    (by rw [World.cell?_alloc_at _ _ _ _ (by simp)]; rfl)
    (by rw [World.cell?_alloc_lt _ _ ⟨t, 0, none⟩ (by simp; omega), World.cell?_alloc_lt _ _ ⟨t, 0, none⟩ (by simp; omega), World.cell?_alloc_lt _ _ ⟨t, 0, none⟩ (by simp; omega), World.cell?_alloc_lt _ _ ⟨t, 0, none⟩ htl]; exact ht0)
    (by rw [World.frozen?_alloc_old _ _ ⟨t, 0, none⟩ (by simp; omega), World.frozen?_alloc_old _ _ ⟨t, 0, none⟩ (by simp; omega), World.frozen?_alloc_old _ _ ⟨t, 0, none⟩ (by simp; omega), World.frozen?_alloc_old _ _ ⟨t, 0, none⟩ (Nat.ne_of_lt htl)]; exact hf0)
    (by rw [World.cell?_setCell_other _ ⟨t, 0, none⟩ ⟨t, 1, none⟩ _ (by simp), World.cell?_alloc_lt _ _ ⟨t, 1, none⟩ (by simp; omega), World.cell?_alloc_lt _ _ ⟨t, 1, none⟩ (by simp; omega), World.cell?_alloc_lt _ _ ⟨t, 1, none⟩ (by simp; omega), World.cell?_alloc_lt _ _ ⟨t, 1, none⟩ htl]; exact ht1)
    (by rw [World.frozen?_setCell, World.frozen?_alloc_old _ _ ⟨t, 1, none⟩ (by simp; omega), World.frozen?_alloc_old _ _ ⟨t, 1, none⟩ (by simp; omega), World.frozen?_alloc_old _ _ ⟨t, 1, none⟩ (by simp; omega), World.frozen?_alloc_old _ _ ⟨t, 1, none⟩ (Nat.ne_of_lt htl)]; exact hf1)
  go_enter Tryd.func39, Tryd.ntmps39
  go_wp2
  refine wp_loop_rounds 1 ?_
  rw [rounds_succ]
  go_wp2
  go_ret
  exact ⟨rfl, rfl⟩
/-- the variable errors.errorType holds what the program's text lays -/
def ErrH (w : World) : Prop := w.cell? ⟨0, 0, none⟩ = some (.iface 119 (.agg #[.pointer (some ⟨1, 65, none⟩)]))
theorem ErrH.up {w w' : World} (h : ErrH w) (hb : Below w.heap.size w w') : ErrH w' := by
  have hlt : 0 < w.heap.size := by
    rcases Nat.eq_zero_or_pos w.heap.size with h0 | h1
    · unfold ErrH at h; simp [World.cell?, h0] at h
    · exact h1
  exact (hb.cell (p := ⟨0, 0, none⟩) hlt).trans h
theorem as_hit_any (x y : Int) (t B : Nat) (o1 o2 : Value) (w : World) (hg : ErrH w) (ht : Blk w t 62 #[o1, o2]) (hB : B ≤ t) :
    Calls Tryd.prog 39 #[.iface 62 (.agg #[.int .i64 x, .int .i64 y]), .iface 67 (.pointer (some ⟨t, 0, none⟩))] w fun ev w' => ev = .returned (.bool true) ∧ Below B w w' := by
  have hl := ht.lt
  refine (as_hit x y t o1 o2 w hg (ht.cell 0) (ht.cell 1) (ht.frozen 0) (ht.frozen 1)).mono ?_
  rintro e w' ⟨rfl, rfl⟩
  refine ⟨rfl, ?_⟩
  refine Below.setCell (Below.setCell (Below.alloc (Below.alloc (Below.alloc (Below.alloc (Below.refl _ _) (by omega) _) (by simp; omega) _) (by simp; omega) _) (by simp; omega) _) hB _) hB _
end Go.Proofs.YtkimgdfcgfhibaaDoor

/- NumbersOk of the program. -/
namespace Go.Proofs.YtkimgdfcgfhibaaDoor
set_option linter.unusedVariables false
set_option linter.unusedSimpArgs false
open Go.ChangeShapes Go.WideShapes Go.ChangeAt Go.RowKit

/-- the first m numbers are as they should be, the deeds aside -/
def goodTo (t : TaskD) (xs : List Int) (m : Nat) : Prop := ∀ s, s < m → (0 ≤ xv xs s ∧ xv xs s ≤ 40) ∧ (evalCode t.goal s = true → xv xs s = 0)
theorem good_zero (t : TaskD) (xs : List Int) : goodTo t xs 0 := fun s h => by omega
theorem good_next {t : TaskD} {xs : List Int} {m : Nat} (h : goodTo t xs m) (k : (0 ≤ xv xs m ∧ xv xs m ≤ 40) ∧ (evalCode t.goal m = true → xv xs m = 0)) : goodTo t xs (m + 1) := fun s hs => by
  rcases Nat.lt_or_ge s m with h1 | h1
  · exact h s h1
  · obtain rfl : s = m := by omega
    exact k
theorem good_under {t : TaskD} {xs : List Int} (h : goodTo t xs 32) (hok : taskOk t = true) (hl : xs.length = 32) (hu : underOk t.deeds xs) : numsOk t xs = true :=
  numsOk_iff.2 ⟨hok, hl, fun s hs => (h s hs).1, fun s hs => (h s hs).2, fun s hs d hd q e => by
    obtain ⟨k, hk, rfl⟩ := List.getElem_of_mem hd
    exact hu k _ s q (List.getElem?_eq_getElem hk) hs e⟩
theorem good_not {t : TaskD} {xs : List Int} (hu : ¬ underOk t.deeds xs) : numsOk t xs = false := by
  cases h : numsOk t xs with
  | false => rfl
  | true => exact absurd (fun k d s q hd hs e => (numsOk_iff.1 h).step s hs d (List.mem_of_getElem? hd) q e) hu
set_option maxRecDepth 100000 in
set_option maxHeartbeats 2000000 in
theorem numbersOk_impl (v : Value) (t : TaskD) (A : Option Addr) (n c : Nat) (xs : List Int) (w : World) (h : RdT w w.heap.size v t) (hx : RdI .i64 w w.heap.size A n c xs) (he : ErrH w) :
    Calls Tryd.prog 12 #[v, .slice A n c] w fun e w' => e = .returned (.bool (numsOk t xs)) ∧ Below w.heap.size w w' := by
  have h' := h
  obtain ⟨G, gn, gc, G', n', c', rfl, hg, hgs, hds, hst⟩ := h
  have S0 := (St.refl w).alloc #[.int .i64 t.start, .slice G gn gc, .slice G' n' c'] 26
  have HT := Lib.hid h'
  have HS0 := Lib.hid S0
  have HG := Lib.hid hg
  have HXI := Lib.hid hx
  have HE := Lib.hid he
  obtain ⟨bo, hok⟩ : ∃ b, taskOk t = b := ⟨_, rfl⟩
  have HOK := Lib.hid hok
  clear S0 h' hok hg hds he
  cases bo with
  | false =>
    have HN := Bx.mk (numsOk_task (xs := xs) HOK.out)
    go_enter Tryd.func12, Tryd.ntmps12
    go_wp2_with fail
    refine (taskValid_impl _ t _ (HT.out.up HS0.out.below)).mono ?_
    rw [HOK.out]
    rintro e w1 ⟨rfl, hb1⟩
    have HB := Lib.hid (HS0.out.quiet hb1).below
    clear hb1
    go_wp2
    go_ret
    exact ⟨by rw [HN.out]; rfl, HB.out⟩
  | true =>
    obtain ⟨-, hgok, -, -⟩ := taskOk_parts t HOK.out
    have HTR := Bx.mk (codeTruth_yes t.goal hgok)
    clear hgok
    by_cases hlen : n = 32
    case neg =>
      have HN := Bx.mk (numsOk_len (t := t) (xs := xs) (by rw [hx.len]; exact hlen))
      have hnI : ((n : Int) == 32) = false := beq_false_of_ne (by omega)
      have hnJ : ((n : Int) ≠ 32) := by omega
      go_enter Tryd.func12, Tryd.ntmps12
      go_wp2_with fail
      refine (taskValid_impl _ t _ (HT.out.up HS0.out.below)).mono ?_
      rw [HOK.out]
      rintro e w1 ⟨rfl, hb1⟩
      have HB := Lib.hid (HS0.out.quiet hb1).below
      clear hb1
      go_wp2
      go_ret
      exact ⟨by rw [HN.out]; rfl, HB.out⟩
    subst hlen
    have HL := Bx.mk hx.len
    clear hx
    go_enter Tryd.func12, Tryd.ntmps12
    go_wp2_with fail
    refine (taskValid_impl _ t _ (HT.out.up HS0.out.below)).mono ?_
    rw [HOK.out]
    rintro e w1 ⟨rfl, hb1⟩
    have HS1 := Lib.hid (HS0.out.quiet hb1)
    clear hb1 HS0
    have q2 : ∀ j, w1.cell? ⟨w.heap.size, j, none⟩ = _ := HS1.out.cells 0 rfl
    obtain ⟨N0, hN0⟩ : ∃ N, truthN t.goal = N := ⟨_, rfl⟩
    have HN0 : Bx (∀ s, s < 32 → (bit N0 s == 1) = evalCode t.goal s) := Bx.mk fun s hs => by rw [← hN0]; exact bit_mset1 _ hs
    have hN32 : N0 < 4294967296 := by rw [← hN0]; exact mset32_lt _
    rw [hN0] at HTR
    clear hN0
    go_wp2_with fail
    refine (codeTruth_impl G gn gc t.goal _ (HG.out.up HS1.out.below)).mono ?_
    rw [HTR.out]
    rintro e w2 ⟨rfl, hb2⟩
    have HS2 := Lib.hid (HS1.out.quiet hb2)
    clear hb2 HS1 q2
    obtain ⟨xb, xo, rfl, hxb, hxc⟩ := HXI.out.x32
    have HXC := Bx.mk hxc
    clear hxc
    go_wp2
    go_loopw [22] (fun i wr => ∃ m : Nat, m ≤ 32 ∧ i = .int .i64 m ∧ Bx (goodTo t xs m) ∧ St w wr [rBlk w.heap.size 26 #[.int .i64 t.start, .slice G gn gc, .slice G' n' c']]) (fun i _ => 32 - (intOf i).toNat)
    case atStart => exact ⟨0, by omega, rfl, Bx.mk (good_zero _ _), HS2.out⟩
    case round =>
      clear HS2
      obtain ⟨m, hm, rfl, HR, MM⟩ := hrel
      have HM := Lib.hid MM
      clear MM
      by_cases hlt : m < 32
      · obtain ⟨x, hxv⟩ : ∃ x, xv xs m = x := ⟨_, rfl⟩
        have HX := Bx.mk hxv
        have rx : wr.cell? ⟨xb, xo + m, none⟩ = some (.int .i64 x) := (bcells HM.out.below xb _ hxb).trans (by rw [← hxv]; exact (HXC.out m hlt).2)
        have hxw := wf_i64 (by rw [← hxv]; exact (HXC.out m hlt).1 : (Lit.int .i64 x).wf = true)
        have hbit := and_one N0 m (by omega)
        obtain ⟨gb, hgb⟩ : ∃ b, evalCode t.goal m = b := ⟨_, rfl⟩
        have HGB := Bx.mk hgb
        have hb1 := HN0.out m hlt
        rw [hgb] at hb1
        clear hxv hgb
        by_cases hlo : x < 0
        case pos =>
          have HF := Bx.mk (numsOk_row hlt (numRow_bd (t := t) (by rw [HX.out]; omega)))
          clear hb1 hbit
          go_wp2
          go_ret
          exact ⟨by rw [HF.out]; rfl, HM.out.below⟩
        by_cases hhi : 40 < x
        case pos =>
          have HF := Bx.mk (numsOk_row hlt (numRow_bd (t := t) (by rw [HX.out]; omega)))
          clear hb1 hbit
          go_wp2
          go_ret
          exact ⟨by rw [HF.out]; rfl, HM.out.below⟩
        have HBD : Bx (0 ≤ xv xs m ∧ xv xs m ≤ 40) := Bx.mk (by rw [HX.out]; omega)
        cases gb with
        | true =>
          have h1 : bit N0 m = 1 := by simpa using hb1
          rw [h1] at hbit
          clear hb1 h1
          by_cases hx0 : x = 0
          case neg =>
            have HF := Bx.mk (numsOk_row hlt (numRow_goal HGB.out (by rw [HX.out]; exact hx0)))
            have hxe : (x == 0) = false := beq_false_of_ne hx0
            go_wp2
            go_ret
            exact ⟨by rw [HF.out]; rfl, HM.out.below⟩
          subst hx0
          have HR2 := Bx.mk (good_next HR.out ⟨HBD.out, fun _ => HX.out⟩)
          go_wp2
          go_roundw
          case rel => exact ⟨m + 1, by omega, by go_num, HR2, HM.out⟩
          case measure => simp [intOf]; omega
        | false =>
          have h1 : bit N0 m = 0 := by have := bit_lt N0 m; have h2 : bit N0 m ≠ 1 := by simpa using hb1
                                       omega
          rw [h1] at hbit
          clear hb1 h1
          have HR2 := Bx.mk (good_next HR.out ⟨HBD.out, fun e => by rw [HGB.out] at e; cases e⟩)
          go_wp2
          go_roundw
          case rel => exact ⟨m + 1, by omega, by go_num, HR2, HM.out⟩
          case measure => simp [intOf]; omega
      · obtain rfl : m = 32 := by omega
        obtain ⟨g5, hg5⟩ : ∃ g5, wr.heap.size = g5 := ⟨_, rfl⟩
        have hgw : w.heap.size ≤ g5 := by rw [← hg5]; exact HM.out.below.size
        have HS3 : Hid (St w (wr.alloc (.cells #[.int .i64 0, .int .i64 0] 62)) [rBlk w.heap.size 26 #[.int .i64 t.start, .slice G gn gc, .slice G' n' c'], rBlk g5 62 #[.int .i64 0, .int .i64 0]]) := Lib.hid (by rw [← hg5]; exact HM.out.alloc _ _)
        have H0 : Bx (∀ s, s < 32 → 0 ≤ xv xs s) := Bx.mk fun s hs => (HR.out s hs).1.1
        clear HM
        have q3 : ∀ j, (wr.alloc (.cells #[.int .i64 0, .int .i64 0] 62)).cell? ⟨w.heap.size, j, none⟩ = _ := HS3.out.cells 0 rfl
        go_wp2_with fail
        try rw [hg5]
        generalize wr.alloc (.cells #[.int .i64 0, .int .i64 0] 62) = wa at HS3 q3 ⊢
        refine (stepsUnder_any _ t _ c xs _ (HT.out.up HS3.out.below) HOK.out (HXI.out.up HS3.out.below) H0.out).mono ?_
        rintro e w4 ⟨he4, hb4⟩
        have HS4 := Lib.hid (HS3.out.quiet hb4)
        clear hb4 q3 HS3
        rcases he4 with ⟨hu, rfl⟩ | ⟨hu, a, b, ha, hb, rfl⟩
        · have HF := Bx.mk (good_under HR.out HOK.out HL.out hu)
          clear hu
          go_wp2_with fail
          refine (as_nil _ _).mono ?_
          rintro e w5 ⟨rfl, rfl⟩
          go_wp2
          go_ret
          exact ⟨by rw [HF.out]; rfl, HS4.out.below⟩
        · have HF := Bx.mk (good_not hu)
          clear hu
          go_wp2_with fail
          refine (as_hit_any _ _ g5 w.heap.size _ _ _ (HE.out.up HS4.out.below) (HS4.out.blk 1 rfl) hgw).mono ?_
          rintro e w5 ⟨rfl, hb5⟩
          have HB := Lib.hid (HS4.out.below.trans hb5)
          clear hb5
          go_wp2
          go_ret
          exact ⟨by rw [HF.out]; rfl, HB.out⟩
end Go.Proofs.YtkimgdfcgfhibaaDoor
