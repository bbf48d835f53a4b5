/- Joined texts: RightP, Shelf. -/
import Derived.Test.YtkmcengmglgdeaaGreatDoorSLaid
import Derived.Test.YtkmcengmglgdeaaGreatDoorSBuilder
import Derived.Shelf.LaysM
import Derived.Shelf.Strconv.Itoa3
import Derived.Shelf.Strings.Search1
import Derived.Shelf.Strings.Search2
import Derived.Shelf.Strings.Count
import Derived.Shelf.Strings.Split
import Derived.Test.YtkmcengmglgdeaaGreatDoorProg

namespace Go.Proofs.YtkmcengmglgdeaaGreatDoor
set_option linter.unusedVariables false
set_option linter.unusedSimpArgs false

theorem ten_ge {n : Nat} (h : 2 ≤ n) : (100 : Int) ≤ 10 ^ n := by
 obtain ⟨j, rfl⟩ : ∃ j, n = j + 2 := ⟨n - 2, by omega⟩; rw [Int.pow_succ, Int.pow_succ]; have : (0 : Int) < 10 ^ j := Int.pow_pos (by omega)
 omega
theorem ten_le {n : Nat} (h : n ≤ 2) : (10 : Int) ^ n ≤ 100 := by
 obtain rfl | rfl | rfl : n = 0 ∨ n = 1 ∨ n = 2 := by omega
 all_goals decide
theorem cutW_ne (c : UInt8) (cur s : List UInt8) : cutW c cur s ≠ [] := by
 induction s generalizing cur with
 | nil => simp [cutW]
 | cons x s ih =>
  simp only [cutW]
  split
  ·simp
  ·exact ih _
theorem first_of {c : UInt8} {l : List UInt8} (h : c ∈ l) : ∃ a b, l = a ++ c :: b ∧ c ∉ a := by
 induction l with
 | nil => cases h
 | cons x l ih =>
  by_cases e : x = c
  ·exact ⟨[], l, by rw [e]; rfl, by simp⟩
  ·obtain ⟨a, b, rfl, ha⟩ := ih (by simpa [Ne.symm e] using h); exact ⟨x :: a, b, rfl, by simp [Ne.symm e, ha]⟩
theorem digsGo_rd (s : List UInt8) : ∀ acc, digsGo acc s = (rdGo acc s).getD (-1) := by
 induction s with
 | nil => intro acc; rfl
 | cons c s ih =>
  intro acc; simp only [digsGo, rdGo]
  split
  ·rfl
  ·rw [ih, Int.mul_comm]
theorem greatZ_rd (s : List UInt8) : greatZ s = (rdNum 10 s).getD (-1) := by
 unfold greatZ rdNum
 by_cases h : s.length < 1 ∨ 10 < s.length ∨ (1 < s.length ∧ s.head? = some 48)
 ·rw [if_pos h, if_pos]
  ·rfl
  ·rcases h with h | h | ⟨h1, h2⟩
   ·left; exact List.eq_nil_of_length_eq_zero (by omega)
   ·right; left; omega
   ·right; right; exact ⟨h2, h1⟩
 ·rw [if_neg h, if_neg]
  ·exact digsGo_rd s 0
  ·rintro (h' | h' | ⟨h1, h2⟩)
   ·subst h'; exact h (.inl (by simp))
   ·exact h (.inr (.inl (by omega)))
   ·exact h (.inr (.inr ⟨h2, h1⟩))
theorem rdGo_space {s : List UInt8} (h : (32 : UInt8) ∈ s) : ∀ acc, rdGo acc s = none := by
 induction s with
 | nil => cases h
 | cons c s ih =>
  intro acc; simp only [rdGo]
  rcases List.mem_cons.1 h with e | e
  ·rw [← e, if_pos (by decide)]
  ·split
   ·rfl
   ·exact ih e _
theorem rdNum_space {d : Int} {s : List UInt8} (h : (32 : UInt8) ∈ s) : rdNum d s = none := by
 unfold rdNum
 split
 ·rfl
 ·exact rdGo_space h 0
theorem setL_space {s : List UInt8} (h : (32 : UInt8) ∈ s) : setL s = none := by
 cases e : setL s with
 | none => rfl
 | some n =>
  obtain ⟨h1, h2⟩ := setL_some e; exact absurd (h2 ▸ h) (letT_no32 n h1)
theorem rdGo_nonneg {s : List UInt8} : ∀ acc, 0 ≤ acc → ∀ v, rdGo acc s = some v → 0 ≤ v := by
 induction s with
 | nil => intro acc h v e; simp only [rdGo] at e; injection e with e; omega
 | cons c s ih =>
  intro acc h v e; simp only [rdGo] at e
  split at e
  ·cases e
  ·exact ih _ (by omega) v e
theorem rdGo_big {s : List UInt8} : ∀ acc, 0 ≤ acc → ∀ v, rdGo acc s = some v → acc * 10 ^ s.length ≤ v ∧ v < (acc + 1) * 10 ^ s.length := by
 induction s with
 | nil => intro acc h v e; simp only [rdGo] at e; injection e with e; simp; omega
 | cons c s ih =>
  intro acc h v e; simp only [rdGo] at e
  split at e
  ·cases e
  ·obtain ⟨h1, h2⟩ := ih _ (by omega) v e; have hp : (0 : Int) < 10 ^ s.length := Int.pow_pos (by omega); rw [List.length_cons, Int.pow_succ]
   generalize (10 : Int) ^ s.length = q at *
   have hc : (acc * 10 + ((c.toNat : Int) - 48)) * q = acc * (q * 10) + ((c.toNat : Int) - 48) * q := by
    rw [Int.add_mul, Int.mul_assoc, Int.mul_comm 10 q]
   have hd : (acc * 10 + ((c.toNat : Int) - 48) + 1) * q = acc * (q * 10) + ((c.toNat : Int) - 47) * q := by
    rw [show acc * 10 + ((c.toNat : Int) - 48) + 1 = acc * 10 + ((c.toNat : Int) - 47) by omega, Int.add_mul, Int.mul_assoc, Int.mul_comm 10 q]
   have h0 : 0 ≤ ((c.toNat : Int) - 48) * q := Int.mul_nonneg (by omega) (by omega); have h9 : ((c.toNat : Int) - 47) * q ≤ 10 * q := Int.mul_le_mul_of_nonneg_right (by omega) (by omega); have he : (acc + 1) * (q * 10) = acc * (q * 10) + 10 * q := by rw [Int.add_mul, Int.one_mul, Int.mul_comm q 10]
   omega
theorem digs_two (s : List UInt8) : (∃ v, rdNum 2 s = some v ∧ digs s = v ∧ 0 ≤ v ∧ v < 100) ∨ rdNum 2 s = none ∧ ¬ (0 ≤ digs s ∧ digs s < 6) := by
 unfold rdNum digs
 by_cases h : s.length < 1 ∨ 4 < s.length ∨ 1 < s.length ∧ s.head? = some 48
 ·right
  rw [if_pos h]; refine ⟨?_, by omega⟩
  split
  ·rfl
  ·rename_i h'
   exfalso
   apply h'
   rcases h with h | h | ⟨h1, h2⟩
   ·left; exact List.eq_nil_of_length_eq_zero (by omega)
   ·right; left; omega
   ·right; right; exact ⟨h2, h1⟩
 ·rw [if_neg h]
  by_cases h2 : (2 : Int) < (s.length : Int)
  ·right
   rw [if_pos (.inr (.inl h2))]; refine ⟨rfl, ?_⟩; rw [digsGo_rd]
   match s, h, h2 with
   | c :: s, h, h2 =>
    simp only [rdGo]
    split
    ·simp
    ·rename_i hc
     cases e : rdGo (0 * 10 + ((c.toNat : Int) - 48)) s with
     | none => simp
     | some v =>
      have hne : c.toNat ≠ 48 := fun e48 => h (.inr (.inr ⟨by simp at h2 ⊢; omega, by simp only [List.head?_cons]; exact congrArg some (UInt8.toNat_inj.1 (by rw [e48]; rfl))⟩))
      obtain ⟨b1, -⟩ := rdGo_big _ (by omega) v e; simp only [Option.getD_some]; have hl : 2 ≤ s.length := by simp at h2; omega
      have hp : (100 : Int) ≤ 10 ^ s.length := ten_ge hl; have hq : 1 * (10 : Int) ^ s.length ≤ (0 * 10 + ((c.toNat : Int) - 48)) * 10 ^ s.length := Int.mul_le_mul_of_nonneg_right (by omega) (by omega)
      omega
  ·have hc : ¬ (s = [] ∨ (2 : Int) < (s.length : Int) ∨ s.head? = some 48 ∧ 1 < s.length) := by
    rintro (h' | h' | ⟨h1, h2'⟩)
    ·subst h'; exact h (.inl (by simp))
    ·exact h2 h'
    ·exact h (.inr (.inr ⟨h2', h1⟩))
   rw [if_neg hc, digsGo_rd]
   cases e : rdGo 0 s with
   | none => right; exact ⟨rfl, by simp⟩
   | some v =>
    left
    obtain ⟨b1, b2⟩ := rdGo_big 0 (by omega) v e; refine ⟨v, rfl, rfl, by omega, ?_⟩; have hl : s.length ≤ 2 := by omega
    have hp : (10 : Int) ^ s.length ≤ 100 := ten_le hl
    omega
def readAll : List (List UInt8) → Option (List Int)
 | [] => some []
 | w :: ws => (rdNum 2 w).bind fun v => (readAll ws).map fun p => v :: p
def planL (ws : List (List UInt8)) : Option (List Int) := if ws.length ≤ 40 then readAll ws else none
theorem plan_no {t : TaskD} {p : List Int} {x : Int} (h6 : t.deeds.length ≤ 6) (hx : x ∈ p) (h : ¬ (0 ≤ x ∧ x < 6)) : planOk t p = false := by
 have : planRun t t.start p = -1 := by
  unfold planRun
  split
  ·have hr : ∀ (p : List Int) (s : Nat), x ∈ p → runP t s p = none := by
    intro p
    induction p with
    | nil => intro s hx; cases hx
    | cons k p ih =>
     intro s hx; simp only [runP]
     cases hk : stepP t s k with
     | none => rfl
     | some s1 =>
      rcases List.mem_cons.1 hx with rfl | hx
      ·unfold stepP at hk
       rw [if_neg (by omega)] at hk
       cases hk
      ·exact ih s1 hx
   rw [hr p _ hx]; rfl
  ·rfl
 unfold planOk
 rw [this]; rfl
theorem plan_long {t : TaskD} {p : List Int} (h : ¬ p.length ≤ 40) : planOk t p = false := by
 unfold planOk planRun
 rw [if_neg (fun hh => h hh.2.2)]; rfl
theorem readAll_digs (ws : List (List UInt8)) : (∃ p, readAll ws = some p ∧ ws.map digs = p ∧ ∀ x ∈ p, 0 ≤ x ∧ x < 100) ∨ readAll ws = none ∧ ∃ x ∈ ws.map digs, ¬ (0 ≤ x ∧ x < 6) := by
 induction ws with
 | nil => exact .inl ⟨[], rfl, rfl, by simp⟩
 | cons w ws ih =>
  rcases digs_two w with ⟨v, h1, h2, h3, h4⟩ | ⟨h1, h2⟩
  ·rcases ih with ⟨p, i1, i2, i3⟩ | ⟨i1, x, i2, i3⟩
   ·left
    refine ⟨v :: p, by simp [readAll, h1, i1], by simp [h2, i2], fun x hx => ?_⟩
    rcases List.mem_cons.1 hx with rfl | hx
    ·exact ⟨h3, h4⟩
    ·exact i3 x hx
   ·right
    exact ⟨by simp [readAll, h1, i1], x, List.mem_cons_of_mem _ i2, i3⟩
  ·right
   exact ⟨by simp [readAll, h1], digs w, by simp, h2⟩
theorem plan_digs {t : TaskD} (h6 : t.deeds.length ≤ 6) (ws : List (List UInt8)) : planOk t (ws.map digs) = (match planL ws with | some p => planOk t p | none => false) := by
 unfold planL
 by_cases hl : ws.length ≤ 40
 ·rw [if_pos hl]
  rcases readAll_digs ws with ⟨p, i1, i2, -⟩ | ⟨i1, x, i2, i3⟩
  ·rw [i1, i2]
  ·rw [i1, plan_no h6 i2 i3]
 ·rw [if_neg hl, plan_long (by simpa using hl)]
theorem readAll_snoc (ws : List (List UInt8)) (w : List UInt8) : readAll (ws ++ [w]) = (readAll ws).bind fun p => (rdNum 2 w).map fun v => p ++ [v] := by
 induction ws with
 | nil => cases h : rdNum 2 w <;> simp [readAll, h]
 | cons x ws ih =>
  simp only [List.cons_append, readAll, ih]
  cases rdNum 2 x with
  | none => rfl
  | some v =>
   cases readAll ws with
   | none => rfl
   | some p => cases rdNum 2 w <;> rfl
theorem readAll_take {ws : List (List UInt8)} {k : Nat} {w : List UInt8} (h : ws[k]? = some w) : readAll (ws.take (k + 1)) = (readAll (ws.take k)).bind fun p => (rdNum 2 w).map fun v => p ++ [v] := by
 rw [List.take_add_one, h]; exact readAll_snoc _ _
theorem readAll_pre {ws : List (List UInt8)} {k : Nat} (h : readAll (ws.take k) = none) : readAll ws = none := by
 rw [← List.take_append_drop k ws]
 generalize ws.take k = a at h
 generalize ws.drop k = b
 induction a with
 | nil => simp [readAll] at h
 | cons x a ih =>
  simp only [List.cons_append, readAll] at h ⊢
  cases h1 : rdNum 2 x with
  | none => rfl
  | some v =>
   rw [h1] at h
   cases h2 : readAll a with
   | none => rw [ih h2]; rfl
   | some p => rw [h2] at h; cases h

theorem right_plan {t : TaskD} {s : List UInt8} {ws : List (List UInt8)} (h6 : t.deeds.length ≤ 6) (h : cutW 32 [] s = planW :: ws) : proofRight t s = (match planL ws with | some p => if planOk t p then 1 else -1 | none => -1) := by
 unfold proofRight
 rw [h]; simp only [if_true]; rw [plan_digs h6]
 cases planL ws <;> rfl
theorem right_closed {t : TaskD} {s b : List UInt8} (h : s = closedW ++ 32 :: b) : proofRight t s = (match rdNum 10 b with | some z => if closedOk t z then 0 else -1 | none => -1) := by
 subst h
 unfold proofRight
 rw [cutW_sep (by decide), List.nil_append]
 simp only
 rw [if_neg (by decide), if_pos trivial]
 by_cases hb : (32 : UInt8) ∈ b
 ·rw [rdNum_space hb]; obtain ⟨a, c, rfl, ha⟩ := first_of hb; rw [cutW_sep ha]; have : cutW 32 [] c ≠ [] := cutW_ne 32 [] c
  cases hc : cutW 32 [] c with
  | nil => exact absurd hc this
  | cons x l => rfl
 ·rw [cutW_plain hb, List.nil_append]
  simp only
  rw [greatZ_rd]
  cases rdNum 10 b with
  | some z => rfl
  | none => exact if_neg (by rw [show (none : Option Int).getD (-1) = -1 from rfl, closed_range (by omega)]; simp)
theorem right_sum {t : TaskD} {s b : List UInt8} (h : s = sumW ++ 32 :: b) : proofRight t s = (match setL b with | some f => if sumOk t f then 0 else -1 | none => -1) := by
 subst h
 unfold proofRight
 rw [cutW_sep (by decide), List.nil_append]
 simp only
 rw [if_neg (by decide), if_neg (by decide), if_pos trivial]
 by_cases hb : (32 : UInt8) ∈ b
 ·rw [setL_space hb]; obtain ⟨a, c, rfl, ha⟩ := first_of hb; rw [cutW_sep ha]; have : cutW 32 [] c ≠ [] := cutW_ne 32 [] c
  cases hc : cutW 32 [] c with
  | nil => exact absurd hc this
  | cons x l => rfl
 ·rw [cutW_plain hb, List.nil_append]; rfl
theorem right_other {t : TaskD} {s w : List UInt8} {ws : List (List UInt8)} (h : cutW 32 [] s = w :: ws) (h1 : w ≠ planW) (h2 : w ≠ closedW ∨ ws = []) (h3 : w ≠ sumW ∨ ws = []) : proofRight t s = -1 := by
 unfold proofRight
 rw [h]
 simp only
 rw [if_neg h1]
 by_cases hc : w = closedW
 ·rw [if_pos hc]
  rcases h2 with h2 | rfl
  ·exact absurd hc h2
  ·rfl
 ·rw [if_neg hc]
  by_cases hs : w = sumW
  ·rw [if_pos hs]
   rcases h3 with h3 | rfl
   ·exact absurd hs h3
   ·rfl
  ·rw [if_neg hs]
end Go.Proofs.YtkmcengmglgdeaaGreatDoor


namespace Go.Proofs
open Go.Shelf
def Tryz.laysM171_ren : Go.Shelf.Ren := ⟨fun | 171 => 95 | 243 => 151 | 246 => 183 | 283 => 205 | 284 => 206 | 285 => 207 | 286 => 208 | 129 => 220 | 317 => 219 | 318 => 221 | 319 => 222 | 320 => 223 | 337 => 230 | 338 => 231 | n => n, fun | 3 => 3 | 9 => 9 | 2 => 2 | 4 => 4 | 171 => 195 | 0 => 0 | 53 => 196 | 37 => 22 | 5 => 5 | 173 => 199 | 212 => 226 | 51 => 222 | 20 => 20 | 213 => 227 | 46 => 194 | 232 => 247 | 233 => 248 | n => n, fun | 17 => 2 | 18 => 3 | 19 => 4 | n => n⟩
theorem Tryz.laysM171 : Go.Proofs.LaysM.n171 Tryz.prog Tryz.laysM171_ren := {
 mixed := by kernel_rfl
 f129 := Tryz.func220.trans (congrArg some (by kernel_rfl))
 f171 := Tryz.func95.trans (congrArg some (by kernel_rfl))
 f243 := Tryz.func151.trans (congrArg some (by kernel_rfl))
 f246 := Tryz.func183.trans (congrArg some (by kernel_rfl))
 f283 := Tryz.func205.trans (congrArg some (by kernel_rfl))
 f284 := Tryz.func206.trans (congrArg some (by kernel_rfl))
 f285 := Tryz.func207.trans (congrArg some (by kernel_rfl))
 f286 := Tryz.func208.trans (congrArg some (by kernel_rfl))
 f317 := Tryz.func219.trans (congrArg some (by kernel_rfl))
 f318 := Tryz.func221.trans (congrArg some (by kernel_rfl))
 f319 := Tryz.func222.trans (congrArg some (by kernel_rfl))
 f320 := Tryz.func223.trans (congrArg some (by kernel_rfl))
 f337 := Tryz.func230.trans (congrArg some (by kernel_rfl))
 f338 := Tryz.func231.trans (congrArg some (by kernel_rfl))
 t0 := Tryz.underlying0
 a0 := Tryz.isAgg0
 z0 := Tryz.sizeOf0
 v0 := Tryz.zeroValue0
 t2 := Tryz.underlying2
 a2 := Tryz.isAgg2
 z2 := Tryz.sizeOf2
 v2 := Tryz.zeroValue2
 t3 := Tryz.underlying3
 a3 := Tryz.isAgg3
 z3 := Tryz.sizeOf3
 v3 := Tryz.zeroValue3
 t4 := Tryz.underlying4
 a4 := Tryz.isAgg4
 z4 := Tryz.sizeOf4
 v4 := Tryz.zeroValue4
 t5 := Tryz.underlying5
 a5 := Tryz.isAgg5
 z5 := Tryz.sizeOf5
 v5 := Tryz.zeroValue5
 t9 := Tryz.underlying9
 a9 := Tryz.isAgg9
 z9 := Tryz.sizeOf9
 v9 := Tryz.zeroValue9
 t20 := Tryz.underlying20
 a20 := Tryz.isAgg20
 z20 := Tryz.sizeOf20
 v20 := Tryz.zeroValue20
 t37 := Tryz.underlying22
 a37 := Tryz.isAgg22
 z37 := Tryz.sizeOf22
 v37 := Tryz.zeroValue22
 t46 := Tryz.underlying194
 a46 := Tryz.isAgg194
 z46 := Tryz.sizeOf194
 v46 := Tryz.zeroValue194
 t51 := Tryz.underlying222
 a51 := Tryz.isAgg222
 z51 := Tryz.sizeOf222
 v51 := Tryz.zeroValue222
 t53 := Tryz.underlying196
 a53 := Tryz.isAgg196
 z53 := Tryz.sizeOf196
 v53 := Tryz.zeroValue196
 t171 := Tryz.underlying195
 a171 := Tryz.isAgg195
 z171 := Tryz.sizeOf195
 v171 := Tryz.zeroValue195
 t173 := Tryz.underlying199
 a173 := Tryz.isAgg199
 z173 := Tryz.sizeOf199
 v173 := Tryz.zeroValue199
 t212 := Tryz.underlying226
 a212 := Tryz.isAgg226
 z212 := Tryz.sizeOf226
 v212 := Tryz.zeroValue226
 t213 := Tryz.underlying227
 a213 := Tryz.isAgg227
 z213 := Tryz.sizeOf227
 t232 := Tryz.underlying247
 a232 := Tryz.isAgg247
 z232 := Tryz.sizeOf247
 v232 := Tryz.zeroValue247
 t233 := Tryz.underlying248
 a233 := Tryz.isAgg248
 z233 := Tryz.sizeOf248
 v233 := Tryz.zeroValue248
 g17 := by kernel_rfl
 g18 := by kernel_rfl
 g19 := by kernel_rfl
 i0 := by kernel_rfl
 i2 := by kernel_rfl
 i3 := by kernel_rfl
 i4 := by kernel_rfl
 i5 := by kernel_rfl
 i9 := by kernel_rfl
 i20 := by kernel_rfl
 i37 := by kernel_rfl
 i46 := by kernel_rfl
 i51 := by kernel_rfl
 i53 := by kernel_rfl
 i171 := by kernel_rfl
 i173 := by kernel_rfl
 i212 := by kernel_rfl
 i232 := by kernel_rfl
 i233 := by kernel_rfl
 m17 := by kernel_rfl
 m18 := by kernel_rfl
 m19 := by kernel_rfl }
open Go.RowKit Go.Sort Go.Lib in
theorem Tryz.strconv_Itoa (n : Int) (h0 : -9223372036854775808 ≤ n) (h1 : n ≤ 9223372036854775807) (w : World) (htab : Lib.TabIs Tryz.prog w "internal/strconv.uint64pow10" .u64 Lib.pow10Tab) :
  Calls Tryz.prog 95 #[.int .i64 n] w fun e w' => e = .returned (.string ⟨(Lib.itoa n).toArray⟩) ∧ ∃ k os, w' = grow (w.drewN k) os := Any.strconv_Itoa Tryz.laysM171 n h0 h1 w htab
def Tryz.lays143_ren : Go.Shelf.Ren := ⟨fun | 143 => 226 | 219 => 182 | 217 => 201 | 225 => 202 | 224 => 203 | 267 => 204 | 266 => 217 | 314 => 218 | n => n, fun | 9 => 9 | 3 => 3 | 4 => 4 | 5 => 5 | 46 => 194 | 146 => 223 | 51 => 222 | n => n, fun | 1 => 0 | n => n⟩
theorem Tryz.lays143 : Go.Proofs.Lays.n143 Tryz.prog Tryz.lays143_ren := {
 mixed := by kernel_rfl
 f143 := Tryz.func226.trans (congrArg some (by kernel_rfl))
 f217 := Tryz.func201.trans (congrArg some (by kernel_rfl))
 f219 := Tryz.func182.trans (congrArg some (by kernel_rfl))
 f224 := Tryz.func203.trans (congrArg some (by kernel_rfl))
 f225 := Tryz.func202.trans (congrArg some (by kernel_rfl))
 f266 := Tryz.func217.trans (congrArg some (by kernel_rfl))
 f267 := Tryz.func204.trans (congrArg some (by kernel_rfl))
 f314 := Tryz.func218.trans (congrArg some (by kernel_rfl))
 t3 := Tryz.underlying3
 a3 := Tryz.isAgg3
 z3 := Tryz.sizeOf3
 v3 := Tryz.zeroValue3
 t4 := Tryz.underlying4
 a4 := Tryz.isAgg4
 z4 := Tryz.sizeOf4
 v4 := Tryz.zeroValue4
 t5 := Tryz.underlying5
 a5 := Tryz.isAgg5
 z5 := Tryz.sizeOf5
 v5 := Tryz.zeroValue5
 t9 := Tryz.underlying9
 a9 := Tryz.isAgg9
 z9 := Tryz.sizeOf9
 v9 := Tryz.zeroValue9
 t46 := Tryz.underlying194
 a46 := Tryz.isAgg194
 z46 := Tryz.sizeOf194
 v46 := Tryz.zeroValue194
 t51 := Tryz.underlying222
 a51 := Tryz.isAgg222
 z51 := Tryz.sizeOf222
 v51 := Tryz.zeroValue222
 t146 := Tryz.underlying223
 a146 := Tryz.isAgg223
 z146 := Tryz.sizeOf223
 v146 := Tryz.zeroValue223
 g1 := by kernel_rfl }
open Go.RowKit Go.Lib in
theorem Tryz.strings_Index_one (s : ByteArray) (c : UInt8) (w : World) :
  Calls Tryz.prog 226 #[.string s, .string ⟨#[c]⟩] w fun e w' => e = .returned (.int .i64 (Lib.indexByte s.data.toList c)) ∧ w' = w := Any.strings_Index_one Tryz.lays143 s c w
def Tryz.lays138_ren : Go.Shelf.Ren := ⟨fun | 138 => 225 | 195 => 232 | 218 => 234 | 143 => 226 | 219 => 182 | 217 => 201 | 225 => 202 | 224 => 203 | 267 => 204 | 266 => 217 | 314 => 218 | n => n, fun | 9 => 9 | 3 => 3 | 4 => 4 | 5 => 5 | 0 => 0 | 46 => 194 | 146 => 223 | 51 => 222 | n => n, fun | 1 => 0 | n => n⟩
theorem Tryz.lays138 : Go.Proofs.Lays.n138 Tryz.prog Tryz.lays138_ren := {
 mixed := by kernel_rfl
 f138 := Tryz.func225.trans (congrArg some (by kernel_rfl))
 f143 := Tryz.func226.trans (congrArg some (by kernel_rfl))
 f195 := Tryz.func232.trans (congrArg some (by kernel_rfl))
 f217 := Tryz.func201.trans (congrArg some (by kernel_rfl))
 f218 := Tryz.func234.trans (congrArg some (by kernel_rfl))
 f219 := Tryz.func182.trans (congrArg some (by kernel_rfl))
 f224 := Tryz.func203.trans (congrArg some (by kernel_rfl))
 f225 := Tryz.func202.trans (congrArg some (by kernel_rfl))
 f266 := Tryz.func217.trans (congrArg some (by kernel_rfl))
 f267 := Tryz.func204.trans (congrArg some (by kernel_rfl))
 f314 := Tryz.func218.trans (congrArg some (by kernel_rfl))
 t0 := Tryz.underlying0
 a0 := Tryz.isAgg0
 z0 := Tryz.sizeOf0
 v0 := Tryz.zeroValue0
 t3 := Tryz.underlying3
 a3 := Tryz.isAgg3
 z3 := Tryz.sizeOf3
 v3 := Tryz.zeroValue3
 t4 := Tryz.underlying4
 a4 := Tryz.isAgg4
 z4 := Tryz.sizeOf4
 v4 := Tryz.zeroValue4
 t5 := Tryz.underlying5
 a5 := Tryz.isAgg5
 z5 := Tryz.sizeOf5
 v5 := Tryz.zeroValue5
 t9 := Tryz.underlying9
 a9 := Tryz.isAgg9
 z9 := Tryz.sizeOf9
 v9 := Tryz.zeroValue9
 t46 := Tryz.underlying194
 a46 := Tryz.isAgg194
 z46 := Tryz.sizeOf194
 v46 := Tryz.zeroValue194
 t51 := Tryz.underlying222
 a51 := Tryz.isAgg222
 z51 := Tryz.sizeOf222
 v51 := Tryz.zeroValue222
 t146 := Tryz.underlying223
 a146 := Tryz.isAgg223
 z146 := Tryz.sizeOf223
 v146 := Tryz.zeroValue223
 g1 := by kernel_rfl }
open Go.RowKit Go.Lib in
theorem Tryz.strings_Count_one (s : ByteArray) (c : UInt8) (w : World) :
  Calls Tryz.prog 225 #[.string s, .string ⟨#[c]⟩] w fun e w' => e = .returned (.int .i64 (Lib.countByte s.data.toList c)) ∧ w' = w := Any.strings_Count_one Tryz.lays138 s c w
def Tryz.lays221_ren : Go.Shelf.Ren := ⟨fun | 221 => 212 | 268 => 224 | 138 => 225 | 143 => 226 | 195 => 232 | 197 => 233 | 218 => 234 | 219 => 182 | 260 => 235 | 217 => 201 | 225 => 202 | 224 => 203 | 267 => 204 | 266 => 217 | 314 => 218 | n => n, fun | 9 => 9 | 3 => 3 | 31 => 43 | 4 => 4 | 0 => 0 | 105 => 245 | 21 => 21 | 5 => 5 | 46 => 194 | 119 => 249 | 139 => 252 | 138 => 251 | 146 => 223 | 51 => 222 | n => n, fun | 1 => 0 | 3 => 5 | 4 => 6 | n => n⟩
theorem Tryz.lays221 : Go.Proofs.Lays.n221 Tryz.prog Tryz.lays221_ren := {
 mixed := by kernel_rfl
 f138 := Tryz.func225.trans (congrArg some (by kernel_rfl))
 f143 := Tryz.func226.trans (congrArg some (by kernel_rfl))
 f195 := Tryz.func232.trans (congrArg some (by kernel_rfl))
 f197 := Tryz.func233.trans (congrArg some (by kernel_rfl))
 f217 := Tryz.func201.trans (congrArg some (by kernel_rfl))
 f218 := Tryz.func234.trans (congrArg some (by kernel_rfl))
 f219 := Tryz.func182.trans (congrArg some (by kernel_rfl))
 f221 := Tryz.func212.trans (congrArg some (by kernel_rfl))
 f224 := Tryz.func203.trans (congrArg some (by kernel_rfl))
 f225 := Tryz.func202.trans (congrArg some (by kernel_rfl))
 f260 := Tryz.func235.trans (congrArg some (by kernel_rfl))
 f266 := Tryz.func217.trans (congrArg some (by kernel_rfl))
 f267 := Tryz.func204.trans (congrArg some (by kernel_rfl))
 f268 := Tryz.func224.trans (congrArg some (by kernel_rfl))
 f314 := Tryz.func218.trans (congrArg some (by kernel_rfl))
 t0 := Tryz.underlying0
 a0 := Tryz.isAgg0
 z0 := Tryz.sizeOf0
 v0 := Tryz.zeroValue0
 t3 := Tryz.underlying3
 a3 := Tryz.isAgg3
 z3 := Tryz.sizeOf3
 v3 := Tryz.zeroValue3
 t4 := Tryz.underlying4
 a4 := Tryz.isAgg4
 z4 := Tryz.sizeOf4
 v4 := Tryz.zeroValue4
 t5 := Tryz.underlying5
 a5 := Tryz.isAgg5
 z5 := Tryz.sizeOf5
 v5 := Tryz.zeroValue5
 t9 := Tryz.underlying9
 a9 := Tryz.isAgg9
 z9 := Tryz.sizeOf9
 v9 := Tryz.zeroValue9
 t21 := Tryz.underlying21
 a21 := Tryz.isAgg21
 z21 := Tryz.sizeOf21
 v21 := Tryz.zeroValue21
 t31 := Tryz.underlying43
 a31 := Tryz.isAgg43
 z31 := Tryz.sizeOf43
 v31 := Tryz.zeroValue43
 t46 := Tryz.underlying194
 a46 := Tryz.isAgg194
 z46 := Tryz.sizeOf194
 v46 := Tryz.zeroValue194
 t51 := Tryz.underlying222
 a51 := Tryz.isAgg222
 z51 := Tryz.sizeOf222
 v51 := Tryz.zeroValue222
 t105 := Tryz.underlying245
 a105 := Tryz.isAgg245
 z105 := Tryz.sizeOf245
 v105 := Tryz.zeroValue245
 t119 := Tryz.underlying249
 a119 := Tryz.isAgg249
 z119 := Tryz.sizeOf249
 t138 := Tryz.underlying251
 a138 := Tryz.isAgg251
 z138 := Tryz.sizeOf251
 v138 := Tryz.zeroValue251
 t139 := Tryz.underlying252
 a139 := Tryz.isAgg252
 z139 := Tryz.sizeOf252
 v139 := Tryz.zeroValue252
 t146 := Tryz.underlying223
 a146 := Tryz.isAgg223
 z146 := Tryz.sizeOf223
 v146 := Tryz.zeroValue223
 g1 := by kernel_rfl
 g3 := by kernel_rfl
 g4 := by kernel_rfl }
end Go.Proofs
