/- Plain laws of the texts of acts and journals: lists of bytes, no program in sight. -/
import Derived.Test.YtgnmlpklojgpfaaSBase
namespace Go.Proofs.Ytgnmlpklojgpfaa
set_option linter.unusedVariables false
set_option linter.unusedSimpArgs false

/-! ### acts -/
def digB (n : Nat) : UInt8 := UInt8.ofNat (48 + n)
/-- a number below 100 in decimal -/
def num2 (n : Nat) : List UInt8 := if n < 10 then [digB n] else [digB (n / 10), digB (n % 10)]
def doW : List UInt8 := [100, 111]
def backW : List UInt8 := [98, 97, 99, 107]
def shortW : List UInt8 := [115, 104, 111, 114, 116]
def endW : List UInt8 := [101, 110, 100]
def actT (k n : Int) : List UInt8 :=
  if k = 0 ∧ 0 ≤ n ∧ n ≤ 99 then doW ++ 32 :: num2 n.toNat
  else if k = 1 ∧ 0 ≤ n ∧ n ≤ 99 then backW ++ 32 :: num2 n.toNat
  else if k = 2 ∧ n = 0 then shortW
  else if k = 3 ∧ n = 0 then endW
  else []
def isDig (c : UInt8) : Bool := 48 ≤ c.toNat && c.toNat ≤ 57
/-- what readNumber reads of a text of at most two bytes -/
def readN (t : List UInt8) : Option Nat :=
  match t with
  | [c] => if isDig c then some (c.toNat - 48) else none
  | [c, d] => if c ≠ 48 ∧ isDig c = true ∧ isDig d = true then some (10 * (c.toNat - 48) + (d.toNat - 48)) else none
  | _ => none
def readA (s : List UInt8) : Option (Int × Int) :=
  if s = shortW then some (2, 0)
  else if s = endW then some (3, 0)
  else if (doW ++ [32]).isPrefixOf s = true then (readN (s.drop 3)).map fun (n : Nat) => ((0 : Int), (n : Int))
  else if (backW ++ [32]).isPrefixOf s = true then (readN (s.drop 5)).map fun (n : Nat) => ((1 : Int), (n : Int))
  else none

theorem isDig_iff {c : UInt8} : isDig c = true ↔ 48 ≤ c.toNat ∧ c.toNat ≤ 57 := by simp [isDig]
theorem num2_readN {t : List UInt8} {n : Nat} (h : readN t = some n) : n < 100 ∧ num2 n = t := by
  match t, h with
  | [c], h =>
    simp only [readN] at h
    split at h
    · rename_i hd
      rw [isDig_iff] at hd
      injection h with h
      refine ⟨by omega, ?_⟩
      unfold num2
      rw [if_pos (by omega)]
      unfold digB
      rw [show 48 + n = c.toNat by omega, UInt8.ofNat_toNat]
    · cases h
  | [c, d], h =>
    simp only [readN] at h
    split at h
    · rename_i hd
      obtain ⟨h0, h1, h2⟩ := hd
      rw [isDig_iff] at h1 h2
      injection h with h
      have h3 : c.toNat ≠ 48 := fun e => h0 (UInt8.toNat_inj.1 (by rw [e]; rfl))
      refine ⟨by omega, ?_⟩
      unfold num2
      rw [if_neg (by omega)]
      unfold digB
      rw [show 48 + n / 10 = c.toNat by omega, show 48 + n % 10 = d.toNat by omega, UInt8.ofNat_toNat, UInt8.ofNat_toNat]
    · cases h
  | [], h => cases h
  | _ :: _ :: _ :: _, h => cases h
theorem num2_len (n : Nat) : 1 ≤ (num2 n).length ∧ (num2 n).length ≤ 2 := by unfold num2; split <;> simp

/-- the ways in which an act has a text -/
inductive HasT : Int → Int → List UInt8 → Prop
  | do_ (n : Nat) : n < 100 → HasT 0 n (doW ++ 32 :: num2 n)
  | back (n : Nat) : n < 100 → HasT 1 n (backW ++ 32 :: num2 n)
  | short : HasT 2 0 shortW
  | end_ : HasT 3 0 endW
theorem actT_has {k n : Int} (h : actT k n ≠ []) : HasT k n (actT k n) := by
  unfold actT at h ⊢
  by_cases h1 : k = 0 ∧ 0 ≤ n ∧ n ≤ 99
  · rw [if_pos h1]
    obtain ⟨rfl, a, b⟩ := h1
    obtain ⟨m, rfl⟩ := Int.eq_ofNat_of_zero_le a
    exact .do_ m (by omega)
  · rw [if_neg h1] at h ⊢
    by_cases h2 : k = 1 ∧ 0 ≤ n ∧ n ≤ 99
    · rw [if_pos h2]
      obtain ⟨rfl, a, b⟩ := h2
      obtain ⟨m, rfl⟩ := Int.eq_ofNat_of_zero_le a
      exact .back m (by omega)
    · rw [if_neg h2] at h ⊢
      by_cases h3 : k = 2 ∧ n = 0
      · rw [if_pos h3]; obtain ⟨rfl, rfl⟩ := h3; exact .short
      · rw [if_neg h3] at h ⊢
        by_cases h4 : k = 3 ∧ n = 0
        · rw [if_pos h4]; obtain ⟨rfl, rfl⟩ := h4; exact .end_
        · rw [if_neg h4] at h; exact absurd rfl h
theorem HasT.eq {k n : Int} {s : List UInt8} (h : HasT k n s) : actT k n = s := by
  cases h with
  | do_ m hm => unfold actT; rw [if_pos ⟨rfl, by omega, by omega⟩]; rfl
  | back m hm => unfold actT; rw [if_neg (by simp), if_pos ⟨rfl, by omega, by omega⟩]; rfl
  | short => rfl
  | end_ => rfl
theorem readA_do : ∀ n, n < 100 → readA (doW ++ 32 :: num2 n) = some (0, (n : Int)) := by decide +kernel
theorem readA_back : ∀ n, n < 100 → readA (backW ++ 32 :: num2 n) = some (1, (n : Int)) := by decide +kernel
theorem HasT.read {k n : Int} {s : List UInt8} (h : HasT k n s) : readA s = some (k, n) := by
  cases h with
  | do_ m hm => exact readA_do m hm
  | back m hm => exact readA_back m hm
  | short => rfl
  | end_ => rfl
theorem HasT.ne {k n : Int} {s : List UInt8} (h : HasT k n s) : s ≠ [] := by
  cases h <;> simp [doW, backW, shortW, endW]
theorem readA_actT {k n : Int} (h : actT k n ≠ []) : readA (actT k n) = some (k, n) := (actT_has h).read
theorem pre_drop {p s : List UInt8} (h : p.isPrefixOf s = true) : s = p ++ s.drop p.length := by
  obtain ⟨t, rfl⟩ := List.isPrefixOf_iff_prefix.1 h
  simp
theorem readA_has {s : List UInt8} {k n : Int} (h : readA s = some (k, n)) : HasT k n s := by
  unfold readA at h
  by_cases h1 : s = shortW
  · rw [if_pos h1] at h
    subst h1
    simp only [Option.some.injEq, Prod.mk.injEq] at h
    obtain ⟨rfl, rfl⟩ := h
    exact .short
  · rw [if_neg h1] at h
    by_cases h2 : s = endW
    · rw [if_pos h2] at h
      subst h2
      simp only [Option.some.injEq, Prod.mk.injEq] at h
      obtain ⟨rfl, rfl⟩ := h
      exact .end_
    · rw [if_neg h2] at h
      by_cases h3 : (doW ++ [32]).isPrefixOf s = true
      · rw [if_pos h3] at h
        obtain ⟨m, hm, e⟩ := Option.map_eq_some_iff.1 h
        simp only [Prod.mk.injEq] at e
        obtain ⟨rfl, rfl⟩ := e
        obtain ⟨a, b⟩ := num2_readN hm
        have := pre_drop h3
        have e : s = doW ++ 32 :: num2 m := by rw [b]; simpa [doW] using this
        rw [e]
        exact .do_ m a
      · rw [if_neg h3] at h
        by_cases h4 : (backW ++ [32]).isPrefixOf s = true
        · rw [if_pos h4] at h
          obtain ⟨m, hm, e⟩ := Option.map_eq_some_iff.1 h
          simp only [Prod.mk.injEq] at e
          obtain ⟨rfl, rfl⟩ := e
          obtain ⟨a, b⟩ := num2_readN hm
          have := pre_drop h4
          have e : s = backW ++ 32 :: num2 m := by rw [b]; simpa [backW] using this
          rw [e]
          exact .back m a
        · rw [if_neg h4] at h; cases h
/-- a text of an act ends in a byte that is no space -/
theorem num2_last : ∀ n, n < 100 → (num2 n).getLast? ≠ some 32 := by decide +kernel
theorem HasT.last {k n : Int} {s : List UInt8} (h : HasT k n s) : s.getLast? ≠ some 32 := by
  cases h with
  | do_ m hm =>
    have := num2_last m hm
    have h2 := num2_len m
    rw [List.getLast?_append]
    rw [List.getLast?_cons]
    cases h3 : (num2 m).getLast? with
    | none => simp at h3; simp [h3] at h2
    | some c => rw [h3] at this; simpa using this
  | back m hm =>
    have := num2_last m hm
    have h2 := num2_len m
    rw [List.getLast?_append]
    rw [List.getLast?_cons]
    cases h3 : (num2 m).getLast? with
    | none => simp at h3; simp [h3] at h2
    | some c => rw [h3] at this; simpa using this
  | short => decide
  | end_ => decide
theorem HasT.len {k n : Int} {s : List UInt8} (h : HasT k n s) : s.length ≤ 7 := by
  cases h with
  | do_ m hm => have := num2_len m; simp [doW]; omega
  | back m hm => have := num2_len m; simp [backW]; omega
  | short => decide
  | end_ => decide

/-! ### the reference's words and numbers -/
/-- what stands between the bytes sep, behind what is being read -/
def cutW (sep : UInt8) (cur : List UInt8) : List UInt8 → List (List UInt8)
  | [] => [cur]
  | c :: cs => if c = sep then cur :: cutW sep [] cs else cutW sep (cur ++ [c]) cs
theorem cutW_plain {sep : UInt8} {s : List UInt8} (h : sep ∉ s) (cur : List UInt8) : cutW sep cur s = [cur ++ s] := by
  induction s generalizing cur with
  | nil => simp [cutW]
  | cons c cs ih =>
    simp only [List.mem_cons, not_or] at h
    simp only [cutW]
    rw [if_neg (fun e => h.1 e.symm), ih h.2]
    simp
theorem cutW_sep {sep : UInt8} {s : List UInt8} (h : sep ∉ s) (cur t : List UInt8) : cutW sep cur (s ++ sep :: t) = (cur ++ s) :: cutW sep [] t := by
  induction s generalizing cur with
  | nil => simp [cutW]
  | cons c cs ih =>
    simp only [List.mem_cons, not_or] at h
    simp only [List.cons_append, cutW]
    rw [if_neg (fun e => h.1 e.symm), ih h.2]
    simp
def digsGo (acc : Int) : List UInt8 → Int
  | [] => acc
  | c :: cs => if c.toNat < 48 ∨ 57 < c.toNat then -1 else digsGo (10 * acc + ((c.toNat : Int) - 48)) cs
/-- the number of a text of one to four digits, -1 for others -/
def digs (s : List UInt8) : Int :=
  if s.length < 1 ∨ 4 < s.length ∨ 1 < s.length ∧ s.head? = some 48 then -1 else digsGo 0 s
theorem digs_num2 : ∀ n, n < 100 → digs (num2 n) = n := by decide +kernel
/-- the acts that the reference looks at -/
def listA (s : List UInt8) : List (Int × Int) :=
  (2, 0) :: (3, 0) :: (match cutW 32 [] s with | [_, w] => [(0, digs w), (1, digs w)] | _ => [])
theorem listA_has {s : List UInt8} {k n : Int} (h : HasT k n s) : (k, n) ∈ listA s := by
  cases h with
  | do_ m hm =>
    unfold listA
    rw [cutW_sep (by decide), cutW_plain (by have : ∀ m, m < 100 → (32 : UInt8) ∉ num2 m := by decide +kernel
                                             exact this m hm)]
    simp [digs_num2 m hm]
  | back m hm =>
    unfold listA
    rw [cutW_sep (by decide), cutW_plain (by have : ∀ m, m < 100 → (32 : UInt8) ∉ num2 m := by decide +kernel
                                             exact this m hm)]
    simp [digs_num2 m hm]
  | short => unfold listA; simp
  | end_ => unfold listA; simp
/-- the first act of a list whose text it is -/
def findA (s : List UInt8) : List (Int × Int) → Option (Int × Int)
  | [] => none
  | a :: l => if s ≠ [] ∧ actT a.1 a.2 = s then some a else findA s l
theorem findA_some {s : List UInt8} {l : List (Int × Int)} {a : Int × Int} (h : findA s l = some a) : readA s = some a := by
  induction l with
  | nil => cases h
  | cons b l ih =>
    simp only [findA] at h
    split at h
    · rename_i hb
      injection h with h
      subst h
      have := readA_actT (k := b.1) (n := b.2) (by rw [hb.2]; exact hb.1)
      rw [hb.2] at this
      exact this
    · exact ih h
theorem findA_none {s : List UInt8} {l : List (Int × Int)} (h : findA s l = none) {a : Int × Int} (ha : a ∈ l) (hs : s ≠ []) : actT a.1 a.2 ≠ s := by
  induction l with
  | nil => simp at ha
  | cons b l ih =>
    simp only [findA] at h
    split at h
    · cases h
    · rename_i hb
      rcases List.mem_cons.1 ha with rfl | ha
      · exact fun e => hb ⟨hs, e⟩
      · exact ih h ha
theorem findA_list (s : List UInt8) : findA s (listA s) = readA s := by
  cases h : findA s (listA s) with
  | some a => exact (findA_some h).symm
  | none =>
    cases h2 : readA s with
    | none => rfl
    | some a =>
      obtain ⟨k, n⟩ := a
      have := readA_has h2
      exact absurd this.eq (findA_none h (listA_has this) this.ne)

/-! ### journals -/
def jText (aa : List (Int × Int)) : List UInt8 :=
  if aa.all (fun a => actT a.1 a.2 != []) = true then aa.flatMap fun a => actT a.1 a.2 ++ [10] else []
/-- what is read of a text, behind the beginning of a line -/
def readJ (cur : List UInt8) : List UInt8 → List (Int × Int) × Nat
  | [] => ([], 0)
  | c :: cs =>
    if c = 10 then
      match readA cur with
      | none => ([], 0)
      | some a => (a :: (readJ [] cs).1, cur.length + 1 + (readJ [] cs).2)
    else readJ (cur ++ [c]) cs
theorem readJ_line {l : List UInt8} (h : (10 : UInt8) ∉ l) (cur t : List UInt8) : readJ cur (l ++ 10 :: t) = (match readA (cur ++ l) with | none => ([], 0) | some a => (a :: (readJ [] t).1, (cur ++ l).length + 1 + (readJ [] t).2)) := by
  induction l generalizing cur with
  | nil => simp [readJ]
  | cons c cs ih =>
    simp only [List.mem_cons, not_or] at h
    simp only [List.cons_append, readJ]
    rw [if_neg (fun e => h.1 e.symm), ih h.2]
    simp
theorem readJ_none {l : List UInt8} (h : (10 : UInt8) ∉ l) (cur : List UInt8) : readJ cur l = ([], 0) := by
  induction l generalizing cur with
  | nil => rfl
  | cons c cs ih =>
    simp only [List.mem_cons, not_or] at h
    simp only [readJ]
    rw [if_neg (fun e => h.1 e.symm), ih h.2]
theorem readJ_le (cur s : List UInt8) : (readJ cur s).2 ≤ cur.length + s.length ∧ (readJ cur s).1.length ≤ s.length := by
  induction s generalizing cur with
  | nil => simp [readJ]
  | cons c cs ih =>
    simp only [readJ]
    split
    · cases readA cur with
      | none => simp
      | some a => have := ih []; simp at this ⊢; omega
    · have := ih (cur ++ [c]); simp at this ⊢; omega
end Go.Proofs.Ytgnmlpklojgpfaa
