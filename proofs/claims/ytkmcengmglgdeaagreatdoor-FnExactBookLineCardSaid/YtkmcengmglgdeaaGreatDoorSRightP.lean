/- Joined texts: RightP, RightI. -/
import Derived.Test.YtkmcengmglgdeaaGreatDoorSSplitW
import Derived.Test.YtkmcengmglgdeaaGreatDoorSBuilder
import Derived.Test.YtkmcengmglgdeaaGreatDoorSClosI
import Derived.Test.YtkmcengmglgdeaaGreatDoorSSumW
import Derived.Test.YtkmcengmglgdeaaGreatDoorSCondW
import Derived.Test.YtkmcengmglgdeaaGreatDoorSActsH
import Derived.Test.YtkmcengmglgdeaaGreatDoorSActR
import Derived.Test.YtkmcengmglgdeaaGreatDoorSDoI

namespace Go.Proofs.YtkmcengmglgdeaaGreatDoor
set_option linter.unusedVariables false
set_option linter.unusedSimpArgs false
set_option maxRecDepth 100000
set_option maxHeartbeats 8000000
theorem ten_ge {n : Nat} (h : 2 ≤ n) : (100 : Int) ≤ 10 ^ n := by
 obtain ⟨j, rfl⟩ : ∃ j, n = j + 2 := ⟨n - 2, by omega⟩; rw [Int.pow_succ, Int.pow_succ]; have : (0 : Int) < 10 ^ j := Int.pow_pos (by omega)
 omega
theorem ten_le {n : Nat} (h : n ≤ 2) : (10 : Int) ^ n ≤ 100 := by
 obtain rfl | rfl | rfl : n = 0 ∨ n = 1 ∨ n = 2 := by omega
 all_goals decide
theorem cutW_ne (c : UInt8) (cur s : List UInt8) : cutW c cur s ≠ [] := by
 induction s generalizing cur with
 | nil => simp [cutW]
 | cons x s ih =>
  simp only [cutW]
  split
  ·simp
  ·exact ih _
theorem first_of {c : UInt8} {l : List UInt8} (h : c ∈ l) : ∃ a b, l = a ++ c :: b ∧ c ∉ a := by
 induction l with
 | nil => cases h
 | cons x l ih =>
  by_cases e : x = c
  ·exact ⟨[], l, by rw [e]; rfl, by simp⟩
  ·obtain ⟨a, b, rfl, ha⟩ := ih (by simpa [Ne.symm e] using h); exact ⟨x :: a, b, rfl, by simp [Ne.symm e, ha]⟩
theorem digsGo_rd (s : List UInt8) : ∀ acc, digsGo acc s = (rdGo acc s).getD (-1) := by
 induction s with
 | nil => intro acc; rfl
 | cons c s ih =>
  intro acc; simp only [digsGo, rdGo]
  split
  ·rfl
  ·rw [ih, Int.mul_comm]
theorem greatZ_rd (s : List UInt8) : greatZ s = (rdNum 10 s).getD (-1) := by
 unfold greatZ rdNum
 by_cases h : s.length < 1 ∨ 10 < s.length ∨ (1 < s.length ∧ s.head? = some 48)
 ·rw [if_pos h, if_pos]
  ·rfl
  ·rcases h with h | h | ⟨h1, h2⟩
   ·left; exact List.eq_nil_of_length_eq_zero (by omega)
   ·right; left; omega
   ·right; right; exact ⟨h2, h1⟩
 ·rw [if_neg h, if_neg]
  ·exact digsGo_rd s 0
  ·rintro (h' | h' | ⟨h1, h2⟩)
   ·subst h'; exact h (.inl (by simp))
   ·exact h (.inr (.inl (by omega)))
   ·exact h (.inr (.inr ⟨h2, h1⟩))
theorem rdGo_space {s : List UInt8} (h : (32 : UInt8) ∈ s) : ∀ acc, rdGo acc s = none := by
 induction s with
 | nil => cases h
 | cons c s ih =>
  intro acc; simp only [rdGo]
  rcases List.mem_cons.1 h with e | e
  ·rw [← e, if_pos (by decide)]
  ·split
   ·rfl
   ·exact ih e _
theorem rdNum_space {d : Int} {s : List UInt8} (h : (32 : UInt8) ∈ s) : rdNum d s = none := by
 unfold rdNum
 split
 ·rfl
 ·exact rdGo_space h 0
theorem setL_space {s : List UInt8} (h : (32 : UInt8) ∈ s) : setL s = none := by
 cases e : setL s with
 | none => rfl
 | some n =>
  obtain ⟨h1, h2⟩ := setL_some e; exact absurd (h2 ▸ h) (letT_no32 n h1)
theorem rdGo_nonneg {s : List UInt8} : ∀ acc, 0 ≤ acc → ∀ v, rdGo acc s = some v → 0 ≤ v := by
 induction s with
 | nil => intro acc h v e; simp only [rdGo] at e; injection e with e; omega
 | cons c s ih =>
  intro acc h v e; simp only [rdGo] at e
  split at e
  ·cases e
  ·exact ih _ (by omega) v e
theorem rdGo_big {s : List UInt8} : ∀ acc, 0 ≤ acc → ∀ v, rdGo acc s = some v → acc * 10 ^ s.length ≤ v ∧ v < (acc + 1) * 10 ^ s.length := by
 induction s with
 | nil => intro acc h v e; simp only [rdGo] at e; injection e with e; simp; omega
 | cons c s ih =>
  intro acc h v e; simp only [rdGo] at e
  split at e
  ·cases e
  ·obtain ⟨h1, h2⟩ := ih _ (by omega) v e; have hp : (0 : Int) < 10 ^ s.length := Int.pow_pos (by omega); rw [List.length_cons, Int.pow_succ]
   generalize (10 : Int) ^ s.length = q at *
   have hc : (acc * 10 + ((c.toNat : Int) - 48)) * q = acc * (q * 10) + ((c.toNat : Int) - 48) * q := by
    rw [Int.add_mul, Int.mul_assoc, Int.mul_comm 10 q]
   have hd : (acc * 10 + ((c.toNat : Int) - 48) + 1) * q = acc * (q * 10) + ((c.toNat : Int) - 47) * q := by
    rw [show acc * 10 + ((c.toNat : Int) - 48) + 1 = acc * 10 + ((c.toNat : Int) - 47) by omega, Int.add_mul, Int.mul_assoc, Int.mul_comm 10 q]
   have h0 : 0 ≤ ((c.toNat : Int) - 48) * q := Int.mul_nonneg (by omega) (by omega); have h9 : ((c.toNat : Int) - 47) * q ≤ 10 * q := Int.mul_le_mul_of_nonneg_right (by omega) (by omega); have he : (acc + 1) * (q * 10) = acc * (q * 10) + 10 * q := by rw [Int.add_mul, Int.one_mul, Int.mul_comm q 10]
   omega
theorem digs_two (s : List UInt8) : (∃ v, rdNum 2 s = some v ∧ digs s = v ∧ 0 ≤ v ∧ v < 100) ∨ rdNum 2 s = none ∧ ¬ (0 ≤ digs s ∧ digs s < 6) := by
 unfold rdNum digs
 by_cases h : s.length < 1 ∨ 4 < s.length ∨ 1 < s.length ∧ s.head? = some 48
 ·right
  rw [if_pos h]; refine ⟨?_, by omega⟩
  split
  ·rfl
  ·rename_i h'
   exfalso
   apply h'
   rcases h with h | h | ⟨h1, h2⟩
   ·left; exact List.eq_nil_of_length_eq_zero (by omega)
   ·right; left; omega
   ·right; right; exact ⟨h2, h1⟩
 ·rw [if_neg h]
  by_cases h2 : (2 : Int) < (s.length : Int)
  ·right
   rw [if_pos (.inr (.inl h2))]; refine ⟨rfl, ?_⟩; rw [digsGo_rd]
   match s, h, h2 with
   | c :: s, h, h2 =>
    simp only [rdGo]
    split
    ·simp
    ·rename_i hc
     cases e : rdGo (0 * 10 + ((c.toNat : Int) - 48)) s with
     | none => simp
     | some v =>
      have hne : c.toNat ≠ 48 := fun e48 => h (.inr (.inr ⟨by simp at h2 ⊢; omega, by simp only [List.head?_cons]; exact congrArg some (UInt8.toNat_inj.1 (by rw [e48]; rfl))⟩))
      obtain ⟨b1, -⟩ := rdGo_big _ (by omega) v e; simp only [Option.getD_some]; have hl : 2 ≤ s.length := by simp at h2; omega
      have hp : (100 : Int) ≤ 10 ^ s.length := ten_ge hl; have hq : 1 * (10 : Int) ^ s.length ≤ (0 * 10 + ((c.toNat : Int) - 48)) * 10 ^ s.length := Int.mul_le_mul_of_nonneg_right (by omega) (by omega)
      omega
  ·have hc : ¬ (s = [] ∨ (2 : Int) < (s.length : Int) ∨ s.head? = some 48 ∧ 1 < s.length) := by
    rintro (h' | h' | ⟨h1, h2'⟩)
    ·subst h'; exact h (.inl (by simp))
    ·exact h2 h'
    ·exact h (.inr (.inr ⟨h2', h1⟩))
   rw [if_neg hc, digsGo_rd]
   cases e : rdGo 0 s with
   | none => right; exact ⟨rfl, by simp⟩
   | some v =>
    left
    obtain ⟨b1, b2⟩ := rdGo_big 0 (by omega) v e; refine ⟨v, rfl, rfl, by omega, ?_⟩; have hl : s.length ≤ 2 := by omega
    have hp : (10 : Int) ^ s.length ≤ 100 := ten_le hl
    omega
def readAll : List (List UInt8) → Option (List Int)
 | [] => some []
 | w :: ws => (rdNum 2 w).bind fun v => (readAll ws).map fun p => v :: p
def planL (ws : List (List UInt8)) : Option (List Int) := if ws.length ≤ 40 then readAll ws else none
theorem plan_no {t : TaskD} {p : List Int} {x : Int} (h6 : t.deeds.length ≤ 6) (hx : x ∈ p) (h : ¬ (0 ≤ x ∧ x < 6)) : planOk t p = false := by
 have : planRun t t.start p = -1 := by
  unfold planRun
  split
  ·have hr : ∀ (p : List Int) (s : Nat), x ∈ p → runP t s p = none := by
    intro p
    induction p with
    | nil => intro s hx; cases hx
    | cons k p ih =>
     intro s hx; simp only [runP]
     cases hk : stepP t s k with
     | none => rfl
     | some s1 =>
      rcases List.mem_cons.1 hx with rfl | hx
      ·unfold stepP at hk
       rw [if_neg (by omega)] at hk
       cases hk
      ·exact ih s1 hx
   rw [hr p _ hx]; rfl
  ·rfl
 unfold planOk
 rw [this]; rfl
theorem plan_long {t : TaskD} {p : List Int} (h : ¬ p.length ≤ 40) : planOk t p = false := by
 unfold planOk planRun
 rw [if_neg (fun hh => h hh.2.2)]; rfl
theorem readAll_digs (ws : List (List UInt8)) : (∃ p, readAll ws = some p ∧ ws.map digs = p ∧ ∀ x ∈ p, 0 ≤ x ∧ x < 100) ∨ readAll ws = none ∧ ∃ x ∈ ws.map digs, ¬ (0 ≤ x ∧ x < 6) := by
 induction ws with
 | nil => exact .inl ⟨[], rfl, rfl, by simp⟩
 | cons w ws ih =>
  rcases digs_two w with ⟨v, h1, h2, h3, h4⟩ | ⟨h1, h2⟩
  ·rcases ih with ⟨p, i1, i2, i3⟩ | ⟨i1, x, i2, i3⟩
   ·left
    refine ⟨v :: p, by simp [readAll, h1, i1], by simp [h2, i2], fun x hx => ?_⟩
    rcases List.mem_cons.1 hx with rfl | hx
    ·exact ⟨h3, h4⟩
    ·exact i3 x hx
   ·right
    exact ⟨by simp [readAll, h1, i1], x, List.mem_cons_of_mem _ i2, i3⟩
  ·right
   exact ⟨by simp [readAll, h1], digs w, by simp, h2⟩
theorem plan_digs {t : TaskD} (h6 : t.deeds.length ≤ 6) (ws : List (List UInt8)) : planOk t (ws.map digs) = (match planL ws with | some p => planOk t p | none => false) := by
 unfold planL
 by_cases hl : ws.length ≤ 40
 ·rw [if_pos hl]
  rcases readAll_digs ws with ⟨p, i1, i2, -⟩ | ⟨i1, x, i2, i3⟩
  ·rw [i1, i2]
  ·rw [i1, plan_no h6 i2 i3]
 ·rw [if_neg hl, plan_long (by simpa using hl)]
theorem readAll_snoc (ws : List (List UInt8)) (w : List UInt8) : readAll (ws ++ [w]) = (readAll ws).bind fun p => (rdNum 2 w).map fun v => p ++ [v] := by
 induction ws with
 | nil => cases h : rdNum 2 w <;> simp [readAll, h]
 | cons x ws ih =>
  simp only [List.cons_append, readAll, ih]
  cases rdNum 2 x with
  | none => rfl
  | some v =>
   cases readAll ws with
   | none => rfl
   | some p => cases rdNum 2 w <;> rfl
theorem readAll_take {ws : List (List UInt8)} {k : Nat} {w : List UInt8} (h : ws[k]? = some w) : readAll (ws.take (k + 1)) = (readAll (ws.take k)).bind fun p => (rdNum 2 w).map fun v => p ++ [v] := by
 rw [List.take_add_one, h]; exact readAll_snoc _ _
theorem readAll_pre {ws : List (List UInt8)} {k : Nat} (h : readAll (ws.take k) = none) : readAll ws = none := by
 rw [← List.take_append_drop k ws]
 generalize ws.take k = a at h
 generalize ws.drop k = b
 induction a with
 | nil => simp [readAll] at h
 | cons x a ih =>
  simp only [List.cons_append, readAll] at h ⊢
  cases h1 : rdNum 2 x with
  | none => rfl
  | some v =>
   rw [h1] at h
   cases h2 : readAll a with
   | none => rw [ih h2]; rfl
   | some p => rw [h2] at h; cases h
theorem right_plan {t : TaskD} {s : List UInt8} {ws : List (List UInt8)} (h6 : t.deeds.length ≤ 6) (h : cutW 32 [] s = planW :: ws) : proofRight t s = (match planL ws with | some p => if planOk t p then 1 else -1 | none => -1) := by
 unfold proofRight
 rw [h]; simp only [if_true]; rw [plan_digs h6]
 cases planL ws <;> rfl
theorem right_closed {t : TaskD} {s b : List UInt8} (h : s = closedW ++ 32 :: b) : proofRight t s = (match rdNum 10 b with | some z => if closedOk t z then 0 else -1 | none => -1) := by
 subst h
 unfold proofRight
 rw [cutW_sep (by decide), List.nil_append]
 simp only
 rw [if_neg (by decide), if_pos trivial]
 by_cases hb : (32 : UInt8) ∈ b
 ·rw [rdNum_space hb]; obtain ⟨a, c, rfl, ha⟩ := first_of hb; rw [cutW_sep ha]; have : cutW 32 [] c ≠ [] := cutW_ne 32 [] c
  cases hc : cutW 32 [] c with
  | nil => exact absurd hc this
  | cons x l => rfl
 ·rw [cutW_plain hb, List.nil_append]
  simp only
  rw [greatZ_rd]
  cases rdNum 10 b with
  | some z => rfl
  | none => exact if_neg (by rw [show (none : Option Int).getD (-1) = -1 from rfl, closed_range (by omega)]; simp)
theorem right_sum {t : TaskD} {s b : List UInt8} (h : s = sumW ++ 32 :: b) : proofRight t s = (match setL b with | some f => if sumOk t f then 0 else -1 | none => -1) := by
 subst h
 unfold proofRight
 rw [cutW_sep (by decide), List.nil_append]
 simp only
 rw [if_neg (by decide), if_neg (by decide), if_pos trivial]
 by_cases hb : (32 : UInt8) ∈ b
 ·rw [setL_space hb]; obtain ⟨a, c, rfl, ha⟩ := first_of hb; rw [cutW_sep ha]; have : cutW 32 [] c ≠ [] := cutW_ne 32 [] c
  cases hc : cutW 32 [] c with
  | nil => exact absurd hc this
  | cons x l => rfl
 ·rw [cutW_plain hb, List.nil_append]; rfl
theorem right_other {t : TaskD} {s w : List UInt8} {ws : List (List UInt8)} (h : cutW 32 [] s = w :: ws) (h1 : w ≠ planW) (h2 : w ≠ closedW ∨ ws = []) (h3 : w ≠ sumW ∨ ws = []) : proofRight t s = -1 := by
 unfold proofRight
 rw [h]
 simp only
 rw [if_neg h1]
 by_cases hc : w = closedW
 ·rw [if_pos hc]
  rcases h2 with h2 | rfl
  ·exact absurd hc h2
  ·rfl
 ·rw [if_neg hc]
  by_cases hs : w = sumW
  ·rw [if_pos hs]
   rcases h3 with h3 | rfl
   ·exact absurd hs h3
   ·rfl
  ·rw [if_neg hs]
open Go.ChangeShapes Go.WideShapes Go.ChangeAt Go.RowKit
theorem readPlan_no (s : ByteArray) (w : World) :
  Calls Tryz.prog 168 #[.string s, .bool false] w (GivesD (some []) w) := by
 go_enter Tryz.func168, Tryz.ntmps168; go_wp2; exact bodyPost_ret (v := .tuple #[.slice none 0 0, .bool true]) (by simp [results, Tryz.results168, go_sem]) rfl (GivesD.yes rfl (rInts_nil _ _ (Below.refl _ _)))
theorem readPlan_yes (s : ByteArray) (w : World) (hs : s.size < 4294967281) :
  Calls Tryz.prog 168 #[.string s, .bool true] w (GivesD (planL (cutW 32 [] s.data.toList)) w) := by
 have hsp := split_sp s w hs; have hcs := cutW_sum 32 s.data.toList []; have hsl : s.data.toList.length = s.size := (Lib.size_eq s).symm; obtain ⟨ws, hws⟩ : ∃ ws, cutW 32 [] s.data.toList = ws := ⟨_, rfl⟩; rw [hws] at hsp hcs ⊢
 have hpc : ∀ l ∈ ws, l.length ≤ 4294967281 := fun l hl => by have := hcs l hl; simp only [List.length_nil] at this; omega
 obtain ⟨cs, hcd⟩ : ∃ cs, (ws.map fun l => Value.string ⟨l.toArray⟩).toArray = cs := ⟨_, rfl⟩; obtain ⟨n, hn⟩ : ∃ n, ws.length = n := ⟨_, rfl⟩; rw [hcd, hn] at hsp
 have hn2 : n ≤ 4294967290 := by
  have := cutW_len 32 s.data.toList []
  rw [hws, hn, hsl] at this
  omega
 have HAT : ∀ (k : Nat) (l : List UInt8), ws[k]? = some l → cs[k]? = some (Value.string ⟨l.toArray⟩) := fun k l h => by rw [← hcd]; simp [h]
 have HSP := Lib.hid hsp; have HPC := Lib.hid hpc; have HCS := Lib.hid HAT; have HN := Lib.hid hn; clear hsp hpc HAT hws hcs hsl hs hcd hn; go_enter Tryz.func168, Tryz.ntmps168
 go_wp2_with fail
 refine HSP.out.mono ?_; rintro e w1 ⟨rfl, rfl⟩; have HS1 := Lib.hid ((St.refl w).alloc cs 9)
 by_cases h40 : (40 : Int) < (n : Int)
 ·have HP : Bx (planL ws = none) := Bx.mk (by unfold planL; rw [if_neg (by rw [HN.out]; omega)]); go_wp2; exact bodyPost_ret (v := .tuple #[.slice none 0 0, .bool false]) (by simp [results, Tryz.results168, go_sem]) rfl (GivesD.no HP.out HS1.out.below)
 ·have hn40 : n ≤ 40 := by omega
  have HP : Bx (planL ws = readAll ws) := Bx.mk (by unfold planL; rw [if_pos (by rw [HN.out]; omega)]); have HS2 : Hid (St w (w.alloc (.cells cs 9)) [rBlk w.heap.size 9 cs, rInts (.slice none 0 0) []]) := Lib.hid (HS1.out.call (rInts_nil _ _ (Below.refl _ _))); go_wp2
  go_loopw [21, 7] (fun i v wr => ∃ (k : Nat) (x : Value) (ys : List Int), k ≤ n ∧ i = .int .i64 k ∧ x = v ∧ ys.length = k ∧ Bx (readAll (ws.take k) = some ys) ∧ St w wr [rBlk w.heap.size 9 cs, rInts x ys]) (fun i _ _ => n - (intOf i).toNat)
  case atStart => exact ⟨0, _, [], by omega, rfl, rfl, rfl, Bx.mk rfl, HS2.out⟩
  case round =>
   clear HS2 HS1; obtain ⟨k, x, ys, hk, rfl, rfl, hyl, HM, S⟩ := hrel; have HS := Lib.hid S; clear S
   by_cases hlt : k < n
   ·obtain ⟨l, hl⟩ : ∃ l, ws[k]? = some l := ⟨ws[k]'(by rw [HN.out]; exact hlt), List.getElem?_eq_getElem _⟩; have r0 : wr.cell? ⟨w.heap.size, k, none⟩ = some (.string ⟨l.toArray⟩) := (HS.out.cells 0 rfl k).trans (HCS.out k l hl)
    have hll : (⟨l.toArray⟩ : ByteArray).size ≤ 9223372036854775807 := by
     have := HPC.out l (List.mem_of_getElem? hl)
     show l.toArray.size ≤ _
     rw [List.size_toArray]; omega
    have HLK := Lib.hid hl; have hra := readAll_take hl; rw [HM.out] at hra; have hrd := readNumber_any ⟨l.toArray⟩ 2 wr (by decide) hll; rw [show (⟨l.toArray⟩ : ByteArray).data.toList = l from rfl] at hrd; obtain ⟨o, ho⟩ : ∃ o, rdNum 2 l = o := ⟨_, rfl⟩; rw [ho] at hra hrd; have HRD := Lib.hid hrd; have HO := Bx.mk ho; have HRA := Bx.mk hra; clear hrd hra ho hl hll
    go_wp2_with fail
    refine HRD.out.mono ?_; rintro e w3 ⟨he, rfl⟩
    unfold NumR at he
    subst he
    cases o with
    | none =>
     have HNO : Bx (planL ws = none) := Bx.mk (by rw [HP.out]; exact readAll_pre (k := k + 1) (by rw [HRA.out]; rfl)); simp only [Option.getD_none, Option.isSome_none]; go_wp2; exact bodyPost_ret (v := .tuple #[.slice none 0 0, .bool false]) (by simp [results, Tryz.results168, go_sem]) rfl (GivesD.no HNO.out HS.out.below)
    | some z =>
     have hz : 0 ≤ z ∧ z < 100 := by
      rcases digs_two l with ⟨v, h1, h2, h3, h4⟩ | ⟨h1, h2⟩
      ·rw [HO.out] at h1; injection h1 with h1; subst h1; exact ⟨h3, h4⟩
      ·rw [HO.out] at h1; cases h1
     have HM2 : Bx (readAll (ws.take (k + 1)) = some (ys ++ [z])) := Bx.mk (by rw [HRA.out]; rfl); simp only [Option.getD_some, Option.isSome_some]; have HROW := Lib.hid (HS.out.ownI 1 rfl)
     have HAP : Hid (∀ v3 w3', w3'.ownsRow 0 3 1 v3 (ys.length + 1) (ints ys ++ [Value.int .i64 z]) → (wr.alloc (.cells #[.int .i64 z] 3)).grownBy w3' x.ownBlock → (v3.ownBlock = x.ownBlock ∨ v3.ownBlock = some (wr.alloc (.cells #[.int .i64 z] 3)).heap.size) →
       St w w3' [rBlk w.heap.size 9 cs, rInts v3 (ys ++ [z])]) :=
      Lib.hid fun v3 w3' h1 h2 h3 => St.appI (v := x) (xs := ys) (ys := [z]) ((HS.out.alloc #[.int .i64 z] 3).pick [0, 1] (by decide) rfl rfl) 1 rfl rfl h1 (by intro y hy; simp at hy; subst hy; exact wf_i64_mk (by omega)) h2 h3
     go_wp2_with (at_builtin; refine wp_app elInt rfl _ _ rfl 0 x ys.length (ints ys) rfl (HROW.out.alloc _) _ _ 1 1 [.int .i64 z] rfl (RdRow.new wr [.int .i64 z] 3 1 1 rfl (by unfold maxLen; omega)) (by simp [Value.oneCell']) (by omega) (by omega) (Nat.zero_le _) ?_; intro v4 w4 hown4 hg4 hat4; have HS6 := Lib.hid (HAP.out v4 w4 hown4 hg4 hat4))
     go_wp2
     go_roundw
     case rel => exact ⟨k + 1, _, ys ++ [z], by omega, by go_num, rfl, by simp; omega, HM2, HS6.out⟩
     case measure => simp [intOf]; omega
   ·obtain rfl : k = n := by omega
    have HY : Bx (planL ws = some ys) := Bx.mk (by rw [HP.out, ← HM.out, List.take_of_length_le (by rw [HN.out]; omega)]); go_wp2; exact bodyPost_ret (v := .tuple #[_, .bool true]) (by simp [results, Tryz.results168, go_sem]) rfl (GivesD.yes HY.out (HS.out.pick [1] (by decide) rfl rfl))
theorem sum_len (c : UInt8) (a b : List UInt8) (s : ByteArray) (h : s.data.toList = a ++ c :: b) : b.length + 1 ≤ s.size := by
 rw [Lib.size_eq s, h]; simp
def planV (t : TaskD) : Option (List Int) → Int
 | some p => if planOk t p then 1 else -1
 | none => -1
def CutsTo (s k r : ByteArray) (m : Bool) : Prop := ∀ w, Calls Tryz.prog 93 #[.string s, .string ⟨#[32]⟩] w fun e w' => e = .returned (.tuple #[.string k, .string r, .bool m]) ∧ ∃ n, w' = w.drewN n
theorem rightI_plan (v : Value) (t : TaskD) (s r : ByteArray) (m : Bool) (o : Option (List Int)) (w : World) (h : RdT w w.heap.size v t) (hok : taskOk t = true)
  (hc : CutsTo s ⟨#[112, 108, 97, 110]⟩ r m) (hp : ∀ w, Calls Tryz.prog 168 #[.string r, .bool m] w (GivesD o w))
  (hv : proofRight t s.data.toList = planV t o) :
  Calls Tryz.prog 118 #[v, .string s] w fun e w' => e = .returned (.int .i64 (proofRight t s.data.toList)) ∧ Below w.heap.size w w' := by
 rw [hv]; have h' := h; obtain ⟨G, gn, gc, G', n', c', rfl, hg, hgs, hds, hst⟩ := h; have HS0 := Lib.hid ((St.refl w).alloc #[.int .i64 t.start, .slice G gn gc, .slice G' n' c'] 26); have HT := Lib.hid h'; have HOK := Lib.hid hok; have HC := Lib.hid hc; have HP := Lib.hid hp; clear h' hok hds hg hgs hst hc hp hv; go_enter Tryz.func118, Tryz.ntmps118
 go_wp2_with fail
 refine (HC.out _).mono ?_; rintro e w1 ⟨rfl, q, rfl⟩; have HS1 := Lib.hid (HS0.out.quiet (below_drewN (Below.refl _ _) q)); clear HS0
 go_wp2_with fail
 refine (HP.out _).mono ?_; rintro e w2 ⟨v2, ds, rfl, hds, s2⟩; have HS2 := Lib.hid (HS1.out.call s2); clear s2 HS1; have q2 := HS2.out.cells 0 rfl
 cases o with
 | none =>
  simp only [Option.isSome_none, planV]; go_wp2; go_ret; exact ⟨rfl, HS2.out.below⟩
 | some p =>
  obtain rfl := hds p rfl; obtain ⟨A, c, rfl, hri⟩ := HS2.out.rdI 1 rfl; have HRI := Lib.hid hri; obtain ⟨b, hb⟩ : ∃ b, planOk t ds = b := ⟨_, rfl⟩; have HB := Bx.mk hb; clear hri hds; simp only [Option.isSome_some]; clear hb
  go_wp2_with fail
  refine (planOk_impl _ t A _ c ds _ (HT.out.up HS2.out.below) HRI.out HOK.out).mono ?_; rw [HB.out]; rintro e w3 ⟨rfl, hb3⟩; have HB3 := Lib.hid (HS2.out.quiet hb3).below; clear hb3
  cases b with
  | false =>
   go_wp2; go_ret; exact ⟨ret_int (by simp [planV, HB.out]), HB3.out⟩
  | true =>
   go_wp2; go_ret; exact ⟨ret_int (by simp [planV, HB.out]), HB3.out⟩
def closedV (t : TaskD) : Option Int → Int
 | some z => if closedOk t z then 0 else -1
 | none => -1
def sumV (t : TaskD) : Option Nat → Int
 | some f => if sumOk t f then 0 else -1
 | none => -1
theorem rightI_closed (v : Value) (t : TaskD) (s : ByteArray) (b : List UInt8) (w : World) (h : RdT w w.heap.size v t) (hok : taskOk t = true) (he : ErrH w)
  (hs : s.size ≤ 9223372036854775807) (hd : s.data.toList = closedW ++ 32 :: b) :
  Calls Tryz.prog 118 #[v, .string s] w fun e w' => e = .returned (.int .i64 (proofRight t s.data.toList)) ∧ Below w.heap.size w w' := by
 have hc : CutsTo s ⟨closedW.toArray⟩ ⟨b.toArray⟩ true := fun w => cut_at s 32 closedW b w (by decide) hd hs
 have hbs := sum_len 32 closedW b s hd; have hrd := fun w => readNumber_any ⟨b.toArray⟩ 10 w (by decide) (by show b.toArray.size ≤ _; rw [List.size_toArray]; omega)
 rw [show proofRight t s.data.toList = closedV t (rdNum 10 b) from right_closed hd]; rw [show (⟨b.toArray⟩ : ByteArray).data.toList = b from rfl] at hrd; obtain ⟨o, ho⟩ : ∃ o, rdNum 10 b = o := ⟨_, rfl⟩; rw [ho] at hrd ⊢
 have h' := h; obtain ⟨G, gn, gc, G', n', c', rfl, hg, hgs, hds, hst⟩ := h; have HS0 := Lib.hid ((St.refl w).alloc #[.int .i64 t.start, .slice G gn gc, .slice G' n' c'] 26); have HT := Lib.hid h'; have HOK := Lib.hid hok; have HC := Lib.hid hc; have HRD := Lib.hid hrd; have HE := Lib.hid he; clear h' hok hds hg hgs hst hc hrd ho hbs hd hs he; go_enter Tryz.func118, Tryz.ntmps118
 go_wp2_with fail
 refine (HC.out _).mono ?_; rintro e w1 ⟨rfl, q, rfl⟩; have HS1 := Lib.hid (HS0.out.quiet (below_drewN (Below.refl _ _) q)); clear HS0
 go_wp2_with fail
 refine (HRD.out _).mono ?_; rintro e w2 ⟨he2, rfl⟩
 unfold NumR at he2
 subst he2; have q2 := HS1.out.cells 0 rfl
 cases o with
 | none =>
  simp only [Option.isSome_none, Option.getD_none]; go_wp2; go_ret; exact ⟨rfl, HS1.out.below⟩
 | some z =>
  simp only [Option.isSome_some, Option.getD_some]; have hcl := fun w' (h : Below w.heap.size w w') => closedOk_impl _ t z w' (HT.out.up h) (HE.out.up h) HOK.out
  obtain ⟨b2, hb2⟩ : ∃ b2, closedOk t z = b2 := ⟨_, rfl⟩; rw [hb2] at hcl; have HCL := Lib.hid hcl; have HV := Bx.mk hb2; clear hcl hb2
  go_wp2_with fail
  refine (HCL.out _ HS1.out.below).mono ?_; rintro e w3 ⟨rfl, hb3⟩; have HB3 := Lib.hid (HS1.out.quiet hb3).below; clear hb3
  cases b2 with
  | false =>
   go_wp2; go_ret; exact ⟨ret_int (by simp [closedV, HV.out]), HB3.out⟩
  | true =>
   go_wp2; go_ret; exact ⟨ret_int (by simp [closedV, HV.out]), HB3.out⟩
theorem rightI_sum (v : Value) (t : TaskD) (s : ByteArray) (b : List UInt8) (w : World) (h : RdT w w.heap.size v t) (hok : taskOk t = true)
  (hs : s.size ≤ 9223372036854775807) (hd : s.data.toList = sumW ++ 32 :: b) :
  Calls Tryz.prog 118 #[v, .string s] w fun e w' => e = .returned (.int .i64 (proofRight t s.data.toList)) ∧ Below w.heap.size w w' := by
 have hc : CutsTo s ⟨sumW.toArray⟩ ⟨b.toArray⟩ true := fun w => cut_at s 32 sumW b w (by decide) hd hs
 have hrd := fun w => readLetters_any ⟨b.toArray⟩ w
 rw [show proofRight t s.data.toList = sumV t (setL b) from right_sum hd]; rw [show (⟨b.toArray⟩ : ByteArray).data.toList = b from rfl] at hrd; obtain ⟨o, ho⟩ : ∃ o, setL b = o := ⟨_, rfl⟩; rw [ho] at hrd ⊢
 have h' := h; obtain ⟨G, gn, gc, G', n', c', rfl, hg, hgs, hds, hst⟩ := h; have HS0 := Lib.hid ((St.refl w).alloc #[.int .i64 t.start, .slice G gn gc, .slice G' n' c'] 26); have HT := Lib.hid h'; have HOK := Lib.hid hok; have HC := Lib.hid hc; have HO := Bx.mk ho; have HRD := Lib.hid hrd; clear h' hok hds hg hgs hst hc hrd ho hd hs; go_enter Tryz.func118, Tryz.ntmps118
 go_wp2_with fail
 refine (HC.out _).mono ?_; rintro e w1 ⟨rfl, q, rfl⟩; have HS1 := Lib.hid (HS0.out.quiet (below_drewN (Below.refl _ _) q)); clear HS0
 go_wp2_with fail
 refine (HRD.out _).mono ?_; rintro e w2 ⟨rfl, hb2⟩; have HS2 := Lib.hid (HS1.out.quiet hb2); clear hb2 HS1; have q2 := HS2.out.cells 0 rfl
 cases o with
 | none =>
  simp only [Option.isSome_none, Option.getD_none]; go_wp2; go_ret; exact ⟨rfl, HS2.out.below⟩
 | some f =>
  simp only [Option.isSome_some, Option.getD_some]; have hf := (setL_some HO.out).1; have hcl := fun w' (h : Below w.heap.size w w') => sumOk_impl _ t f hf w' (HT.out.up h) HOK.out
  obtain ⟨b2, hb2⟩ : ∃ b2, sumOk t f = b2 := ⟨_, rfl⟩; rw [hb2] at hcl; have HCL := Lib.hid hcl; have HV := Bx.mk hb2; clear hcl hb2 hf
  go_wp2_with fail
  refine (HCL.out _ HS2.out.below).mono ?_; rintro e w3 ⟨rfl, hb3⟩; have HB3 := Lib.hid (HS2.out.quiet hb3).below; clear hb3
  cases b2 with
  | false =>
   go_wp2; go_ret; exact ⟨ret_int (by simp [sumV, HV.out]), HB3.out⟩
  | true =>
   go_wp2; go_ret; exact ⟨ret_int (by simp [sumV, HV.out]), HB3.out⟩
theorem rightI_other (v : Value) (t : TaskD) (s k r : ByteArray) (m : Bool) (w : World) (h : RdT w w.heap.size v t)
  (hc : CutsTo s k r m) (h1 : k.data.toList ≠ planW) (h2 : k.data.toList ≠ closedW ∨ m = false) (h3 : k.data.toList ≠ sumW ∨ m = false) (hv : proofRight t s.data.toList = -1) :
  Calls Tryz.prog 118 #[v, .string s] w fun e w' => e = .returned (.int .i64 (proofRight t s.data.toList)) ∧ Below w.heap.size w w' := by
 rw [hv]; obtain ⟨G, gn, gc, G', n', c', rfl, hg, hgs, hds, hst⟩ := h; have HS0 := Lib.hid ((St.refl w).alloc #[.int .i64 t.start, .slice G gn gc, .slice G' n' c'] 26); have HC := Lib.hid hc
 have b1 : (k.toList == [112, 108, 97, 110]) = false := by
  rw [Bool.eq_false_iff, Lib.toList_data]; intro h; exact h1 (beq_iff_eq.1 h)
 obtain ⟨d2, b2⟩ : ∃ d, (k.toList == [99, 108, 111, 115, 101, 100]) = d := ⟨_, rfl⟩; obtain ⟨d3, b3⟩ : ∃ d, (k.toList == [115, 117, 109]) = d := ⟨_, rfl⟩; have e2 : d2 = false ∨ m = false := h2.imp (fun hh => by rw [← b2, Bool.eq_false_iff, Lib.toList_data]; intro h; exact hh (beq_iff_eq.1 h)) id; have e3 : d3 = false ∨ m = false := h3.imp (fun hh => by rw [← b3, Bool.eq_false_iff, Lib.toList_data]; intro h; exact hh (beq_iff_eq.1 h)) id; have HE2 := Lib.hid e2; have HE3 := Lib.hid e3; clear hds hg hgs hst hc h1 h2 h3 hv e2 e3; go_enter Tryz.func118, Tryz.ntmps118
 go_wp2_with fail
 refine (HC.out _).mono ?_; rintro e w1 ⟨rfl, q, rfl⟩; have HS1 := Lib.hid (HS0.out.quiet (below_drewN (Below.refl _ _) q)); clear HS0
 cases m with
 | false =>
  cases d2 <;> cases d3
  all_goals
   go_wp2; go_ret; exact ⟨rfl, HS1.out.below⟩
 | true =>
  obtain rfl : d2 = false := HE2.out.resolve_right (by simp); obtain rfl : d3 = false := HE3.out.resolve_right (by simp); go_wp2; go_ret; exact ⟨rfl, HS1.out.below⟩
theorem proofRight_impl (v : Value) (t : TaskD) (s : ByteArray) (w : World) (h : RdT w w.heap.size v t) (hok : taskOk t = true) (he : ErrH w) (hs : s.size < 4294967281) :
  Calls Tryz.prog 118 #[v, .string s] w fun e w' => e = .returned (.int .i64 (proofRight t s.data.toList)) ∧ Below w.heap.size w w' := by
 have h6 : t.deeds.length ≤ 6 := (taskOk_parts t hok).2.2.1; have hm : s.size ≤ 9223372036854775807 := by omega
 by_cases hb : (32 : UInt8) ∈ s.data.toList
 ·obtain ⟨a, b, hab, ha⟩ := first_of hb; have hcut : cutW 32 [] s.data.toList = a :: cutW 32 [] b := by rw [hab, cutW_sep ha, List.nil_append]
  have hc : CutsTo s ⟨a.toArray⟩ ⟨b.toArray⟩ true := fun w => cut_at s 32 a b w ha hab hm
  have hbs := sum_len 32 a b s hab
  by_cases h1 : a = planW
  ·subst h1; exact rightI_plan v t s _ true _ w h hok hc (fun w => readPlan_yes _ w (by show b.toArray.size < _; rw [List.size_toArray]; omega)) (right_plan h6 hcut)
  by_cases h2 : a = closedW
  ·subst h2; exact rightI_closed v t s b w h hok he hm hab
  by_cases h3 : a = sumW
  ·subst h3; exact rightI_sum v t s b w h hok hm hab
  exact rightI_other v t s _ _ true w h hc h1 (.inl h2) (.inl h3) (right_other hcut h1 (.inl h2) (.inl h3))
 ·have hcut : cutW 32 [] s.data.toList = [s.data.toList] := by rw [cutW_plain hb, List.nil_append]
  have hc : CutsTo s s .empty false := fun w => cut_none s 32 w hb
  by_cases h1 : s.data.toList = planW
  ·have hs' := ba_eq h1; have hv := right_plan (t := t) h6 (hcut.trans (by rw [h1])); exact rightI_plan v t s .empty false (some []) w h hok (by have hc' := hc; unfold CutsTo at hc' ⊢; intro w; have := hc' w; rw [hs'] at this ⊢; exact this) (fun w => readPlan_no _ w) hv
  ·exact rightI_other v t s s .empty false w h hc h1 (.inr rfl) (.inr rfl) (right_other hcut h1 (.inr rfl) (.inr rfl))
end Go.Proofs.YtkmcengmglgdeaaGreatDoor
