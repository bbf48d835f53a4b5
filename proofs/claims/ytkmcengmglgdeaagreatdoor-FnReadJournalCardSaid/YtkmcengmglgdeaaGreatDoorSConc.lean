/- slices.Contains, slices.Concat of two rows of numbers (and slices.Grow of nil under it). -/
import Derived.Test.YtkmcengmglgdeaaGreatDoorSShortI
import Derived.Test.YtkmcengmglgdeaaGreatDoorSPerm
import Derived.Lib.AppendZeros
namespace Go.Proofs.YtkmcengmglgdeaaGreatDoor
set_option linter.unusedVariables false
set_option linter.unusedSimpArgs false
open Go.ChangeShapes Go.WideShapes Go.ChangeAt Go.RowKit

theorem index_any (A : Option Addr) (n c : Nat) (xs : List Int) (x : Int) (w : World) (h : RdI .i64 w w.heap.size A n c xs) :
  Calls Tryz.prog 188 #[.slice A n c, .int .i64 x] w fun e w' => (∃ r : Int, e = .returned (.int .i64 r) ∧ (0 ≤ r ↔ x ∈ xs)) ∧ w = w' := by
 have hc := h.cap
 have hm := h.capMax
 unfold maxLen at hm
 have HL := Lib.hid h.len
 go_enter Tryz.func188, Tryz.ntmps188
 go_wp2
 go_loop [8] (fun i => ∃ k : Nat, k ≤ n ∧ i = .int .i64 k ∧ Hid (x ∉ xs.take k)) (fun i => n - (intOf i).toNat)
 case atStart => exact ⟨0, by omega, rfl, Lib.hid (by simp)⟩
 case round =>
  obtain ⟨k, hk, rfl, hno⟩ := hrel
  by_cases hlt : k < n
  ·obtain ⟨b, off, y, rfl, hb, hx, hw, hc⟩ := h.get hlt
   have HX := Lib.hid hx
   clear hx
   by_cases he : x = y
   ·have HM := Lib.hid (List.mem_of_getElem? HX.out)
    subst he
    go_wp2
    go_ret
    exact ⟨⟨_, rfl, fun _ => HM.out, fun _ => by omega⟩, rfl⟩
   ·have hne : (x == y) = false := by simpa using he
    have HN : Hid (x ∉ xs.take (k + 1)) := Lib.hid (by
     rw [take_succ' HX.out, List.mem_append]
     rintro (h | h)
     ·exact hno.out h
     ·exact he (List.mem_singleton.1 h))
    clear he
    go_wp2
    go_round
    case rel => exact ⟨k + 1, by omega, by go_num, HN⟩
    case measure => simp [intOf]; omega
  ·have hkn : k = n := by omega
   have HF : Hid (x ∉ xs) := Lib.hid (by have := hno.out; rw [hkn, ← HL.out, List.take_length] at this; exact this)
   clear hkn
   go_wp2
   go_ret
   exact ⟨⟨_, rfl, fun h => by omega, fun h => absurd h HF.out⟩, rfl⟩
theorem contains_any (A : Option Addr) (n c : Nat) (xs : List Int) (x : Int) (w : World) (h : RdI .i64 w w.heap.size A n c xs) :
  Calls Tryz.prog 162 #[.slice A n c, .int .i64 x] w fun e w' => e = .returned (.bool (decide (x ∈ xs))) ∧ w = w' := by
 go_enter Tryz.func162, Tryz.ntmps162
 go_wp2_with fail
 refine (index_any A n c xs x _ h).mono ?_
 rintro e w' ⟨⟨r, rfl, hr⟩, rfl⟩
 have HR : Hid (decide (0 ≤ r) = decide (x ∈ xs)) := Lib.hid (by rw [decide_eq_decide]; exact hr)
 clear hr
 go_wp2
 go_ret
 exact ⟨ret_bool HR.out, rfl⟩
theorem wp_grow {P : Program} {t tn : TypeId} {w w2 : World} {ops : Array Oper} {rest : List Oper} {o : Oper} {a : Act} {Q : Exit → Act → World → Prop} (hgd : o.guard = none) (s x : Operand)
  (ho : o.op = .call { callee := .builtin .append, args := #[s, x], argTypes := #[t, tn] }) (va vb r : Value) (hs : a.eval s = va) (hx : a.eval x = vb) (hr : ∀ ty, (Builtin.append_ #[t, tn] ty #[va, vb]).run P w = .ok r w2)
  (h : wpList P ops Q rest (a.put o.dst r) w2) : wpList P ops Q (o :: rest) a w := by
 refine wpList_plain hgd fun K hK => ?_
 unfold Oper.wp execOp
 simp only [ho, resolve, invoke, builtin, Sem.run_bind, Sem.run_pure, Result.andThen_ok, List.map_toArray, List.map_cons, List.map_nil, hs, hx, hr]
 exact hK _ _ h
set_option maxRecDepth 100000 in
theorem growNil_st (n : Nat) (w : World) (hn : n ≤ 1000000) :
  Calls Tryz.prog 189 #[.slice none 0 0, .int .i64 n] w (Gives w id fun v => [rInts v []]) := by
 obtain ⟨i0, hi, hz0, hz1, hz2⟩ := elInt.hi
 rcases Nat.eq_zero_or_pos n with h0 | h0
 ·subst h0
  go_enter Tryz.func189, Tryz.ntmps189
  go_wp2
  go_ret
  exact ⟨_, rfl, rInts_nil _ _ (Below.refl _ _)⟩
 ·have hni : (0 : Int) < (n : Int) := by omega
  have hap : ∀ ty w, (Builtin.append_ #[23, 3] ty #[.slice none 0 0, .int .i64 n]).run Tryz.prog w = .ok (.slice (some ⟨w.heap.size, 0, none⟩) n (grownCap w n 0 3)) (w.drew.alloc (.cells (Builtin.zeroCells (Value.int .i64 0).cells n ++ Builtin.zeroCells (Value.int .i64 0).cells (grownCap w n 0 3 - n)) 3)) :=
   fun ty w => Lib.run_append_nil_zeros w _ _ ty _ i0 _ .i64 .i64 Tryz.underlying23 Tryz.underlying3 hi hz0 n h0 (by rw [hz1]; omega) (by omega) (by rw [hz2]; omega)
  have hge := grownCap_ge w n 0 3
  have hle := grownCap_le_maxLen w n 0 3 (by unfold maxLen; omega)
  obtain ⟨C, hC⟩ : ∃ C, grownCap w n 0 3 = C := ⟨_, rfl⟩
  have HA := fun ty => hap ty w
  rw [hC] at HA hge hle
  have hle' : C ≤ 9223372036854775807 := by unfold maxLen at hle; omega
  have HS : Hid (St w (w.drew.alloc (.cells (Builtin.zeroCells (Value.int .i64 0).cells n ++ Builtin.zeroCells (Value.int .i64 0).cells (C - n)) 3)) [rInts (.slice (some ⟨w.heap.size, 0, none⟩) 0 C) []]) := Lib.hid (by
   have h1 := (St.new1 w.drew (Builtin.zeroCells (Value.int .i64 0).cells n ++ Builtin.zeroCells (Value.int .i64 0).cells (C - n)) 3)
   have h2 : St w _ _ := (St.of_below ((Below.refl _ _).drew)).call h1
   refine h2.see fun F h _ => ?_
   obtain ⟨h3, rfl⟩ := h
   refine ⟨⟨by simp [ints], .inr ⟨_, C, _, rfl, Nat.zero_le _, h3, by simp, by unfold maxLen; omega, ?_, by simp [ints]⟩⟩, by simp, rfl⟩
   simp only [Array.size_append, size_zeroCells, Value.cells, List.size_toArray, List.length_cons, List.length_nil]
   omega)
  clear hap hC
  go_enter Tryz.func189, Tryz.ntmps189
  go_wp2_with (at_builtin; refine wp_grow rfl (.tmp 20) (.tmp 21) rfl (.slice none 0 0) (.int .i64 n) _ rfl rfl HA ?_)
  go_wp2
  go_ret
  exact ⟨_, rfl, HS.out⟩
set_option maxRecDepth 100000 in
theorem concat2_st (g : Nat) (A1 : Option Addr) (n1 c1 : Nat) (xs : List Int) (A2 : Option Addr) (n2 c2 : Nat) (ys : List Int) (w : World) (hb : Blk w g 23 #[.slice A1 n1 c1, .slice A2 n2 c2])
  (h1 : RdI .i64 w w.heap.size A1 n1 c1 xs) (h2 : RdI .i64 w w.heap.size A2 n2 c2 ys) (hn : n1 + n2 ≤ 1000000) :
  Calls Tryz.prog 163 #[.slice (some ⟨g, 0, none⟩) 2 2] w (Gives w id fun v => [rInts v (xs ++ ys)]) := by
 have HB := Lib.hid hb
 have H1 := Lib.hid h1
 have H2 := Lib.hid h2
 have HL1 := Lib.hid h1.len
 have HL2 := Lib.hid h2.len
 have HW1 := Lib.hid h1.wf
 have HW2 := Lib.hid h2.wf
 have hcap1 := h1.cap
 have hcm1 := h1.capMax
 have hcap2 := h2.cap
 have hcm2 := h2.capMax
 unfold maxLen at hcm1 hcm2
 have q0 : w.cell? ⟨g, 0, none⟩ = some (.slice A1 n1 c1) := hb.cell 0
 have q1 : w.cell? ⟨g, 1, none⟩ = some (.slice A2 n2 c2) := hb.cell 1
 clear hb h1 h2
 go_enter Tryz.func163, Tryz.ntmps163
 go_wp2
 go_loop [11, 3] (fun i z => (i = .int .i64 0 ∧ z = .int .i64 0) ∨ (i = .int .i64 1 ∧ z = .int .i64 (n1 : Int)) ∨ (i = .int .i64 2 ∧ z = .int .i64 ((n1 : Int) + n2))) (fun i _ => 2 - (intOf i).toNat)
 case atStart => exact .inl ⟨rfl, rfl⟩
 case round =>
  rcases hrel with ⟨rfl, rfl⟩ | ⟨rfl, rfl⟩ | ⟨rfl, rfl⟩
  ·go_wp2
   go_round
   case rel => exact .inr (.inl ⟨by go_num, by go_num⟩)
   case measure => simp [intOf]
  ·go_wp2
   go_round
   case rel => exact .inr (.inr ⟨by go_num, by go_num⟩)
   case measure => simp [intOf]
  ·clear q0 q1
   go_wp2_with fail
   have hG := growNil_st (n1 + n2) w hn
   rw [Int.natCast_add] at hG
   refine hG.mono ?_
   rintro e w2 ⟨v2, rfl, s2⟩
   have HS2 := Lib.hid s2
   clear s2 hG
   go_wp2
   go_loopw [27, 6] (fun i x6 wr => ∃ (y6 : Value) (zs : List Int), y6 = x6 ∧ ((i = .int .i64 0 ∧ Bx (zs = [])) ∨ (i = .int .i64 1 ∧ Bx (zs = xs)) ∨ (i = .int .i64 2 ∧ Bx (zs = xs ++ ys))) ∧ St w wr [rInts y6 zs]) (fun i _ _ => 2 - (intOf i).toNat)
   case atStart => exact ⟨_, [], rfl, .inl ⟨rfl, Bx.mk rfl⟩, HS2.out⟩
   case round =>
    clear HS2
    obtain ⟨y6, zs, rfl, hz, S⟩ := hrel
    have HS := Lib.hid S
    clear S
    have p0 : wr.cell? ⟨g, 0, none⟩ = some (.slice A1 n1 c1) := (HB.out.below HS.out.below HB.out.lt).cell 0
    have p1 : wr.cell? ⟨g, 1, none⟩ = some (.slice A2 n2 c2) := (HB.out.below HS.out.below HB.out.lt).cell 1
    have HR1 := Lib.hid (H1.out.up HS.out.below).row
    have HR2 := Lib.hid (H2.out.up HS.out.below).row
    have HO := Lib.hid (HS.out.ownI 0 rfl)
    rcases hz with ⟨rfl, HZ⟩ | ⟨rfl, HZ⟩ | ⟨rfl, HZ⟩
    ·have hzl : zs.length = 0 := by rw [HZ.out]; rfl
     have HZL := Lib.hid hzl
     clear hzl
     go_wp2_with (at_builtin; refine wp_app elInt rfl _ _ rfl 0 y6 zs.length (ints zs) rfl HO.out _ A1 n1 c1 (ints xs) rfl HR1.out (ints_cell _) (by rw [HZL.out]; omega) (by rw [HZL.out]; omega) (Nat.zero_le _) ?_; intro v3 w3 hown3 hg3 hat3)
     have HS3 := Lib.hid (HS.out.appI (ys := xs) 0 rfl (by rw [HL1.out]) hown3 HW1.out hg3 hat3)
     clear hown3 hg3 hat3
     go_wp2
     go_roundw
     case rel => exact ⟨_, zs ++ xs, rfl, .inr (.inl ⟨by go_num, Bx.mk (by rw [HZ.out]; rfl)⟩), HS3.out⟩
     case measure => simp [intOf]
    ·have HZL : Hid (zs.length = n1) := Lib.hid (by rw [HZ.out]; exact HL1.out)
     go_wp2_with (at_builtin; refine wp_app elInt rfl _ _ rfl 0 y6 zs.length (ints zs) rfl HO.out _ A2 n2 c2 (ints ys) rfl HR2.out (ints_cell _) (by rw [HZL.out]; omega) (by rw [HZL.out]; omega) (Nat.zero_le _) ?_; intro v3 w3 hown3 hg3 hat3)
     have HS3 := Lib.hid (HS.out.appI (ys := ys) 0 rfl (by rw [HL2.out]) hown3 HW2.out hg3 hat3)
     clear hown3 hg3 hat3
     go_wp2
     go_roundw
     case rel => exact ⟨_, zs ++ ys, rfl, .inr (.inr ⟨by go_num, Bx.mk (by rw [HZ.out])⟩), HS3.out⟩
     case measure => simp [intOf]
    ·clear p0 p1
     have HE : Bx (xs ++ ys = zs) := Bx.mk HZ.out.symm
     go_wp2
     go_ret
     refine ⟨_, rfl, ?_⟩
     rw [HE.out]
     exact HS.out
end Go.Proofs.YtkmcengmglgdeaaGreatDoor
