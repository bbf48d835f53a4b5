/- Plain laws of the texts of acts and journals: lists of bytes, no program in sight. -/
import Derived.Test.YtgnmlpklojgpfaaDoorSBase
namespace Go.Proofs.YtgnmlpklojgpfaaDoor
set_option linter.unusedVariables false
set_option linter.unusedSimpArgs false

/-! ### acts -/
def digB (n : Nat) : UInt8 := UInt8.ofNat (48 + n)
/-- a number below 100 in decimal -/
def num2 (n : Nat) : List UInt8 := if n < 10 then [digB n] else [digB (n / 10), digB (n % 10)]
def doW : List UInt8 := [100, 111]
def backW : List UInt8 := [98, 97, 99, 107]
def shortW : List UInt8 := [115, 104, 111, 114, 116]
def endW : List UInt8 := [101, 110, 100]
def actT (k n : Int) : List UInt8 :=
  if k = 0 ∧ 0 ≤ n ∧ n ≤ 99 then doW ++ 32 :: num2 n.toNat
  else if k = 1 ∧ 0 ≤ n ∧ n ≤ 99 then backW ++ 32 :: num2 n.toNat
  else if k = 2 ∧ n = 0 then shortW
  else if k = 3 ∧ n = 0 then endW
  else []
def isDig (c : UInt8) : Bool := 48 ≤ c.toNat && c.toNat ≤ 57
/-- what readNumber reads of a text of at most two bytes -/
def readN (t : List UInt8) : Option Nat :=
  match t with
  | [c] => if isDig c then some (c.toNat - 48) else none
  | [c, d] => if c ≠ 48 ∧ isDig c = true ∧ isDig d = true then some (10 * (c.toNat - 48) + (d.toNat - 48)) else none
  | _ => none
def readA (s : List UInt8) : Option (Int × Int) :=
  if s = shortW then some (2, 0)
  else if s = endW then some (3, 0)
  else if (doW ++ [32]).isPrefixOf s = true then (readN (s.drop 3)).map fun (n : Nat) => ((0 : Int), (n : Int))
  else if (backW ++ [32]).isPrefixOf s = true then (readN (s.drop 5)).map fun (n : Nat) => ((1 : Int), (n : Int))
  else none

theorem num2_len (n : Nat) : 1 ≤ (num2 n).length ∧ (num2 n).length ≤ 2 := by unfold num2; split <;> simp

/-- the ways in which an act has a text -/
inductive HasT : Int → Int → List UInt8 → Prop
  | do_ (n : Nat) : n < 100 → HasT 0 n (doW ++ 32 :: num2 n)
  | back (n : Nat) : n < 100 → HasT 1 n (backW ++ 32 :: num2 n)
  | short : HasT 2 0 shortW
  | end_ : HasT 3 0 endW
theorem HasT.eq {k n : Int} {s : List UInt8} (h : HasT k n s) : actT k n = s := by
  cases h with
  | do_ m hm => unfold actT; rw [if_pos ⟨rfl, by omega, by omega⟩]; rfl
  | back m hm => unfold actT; rw [if_neg (by simp), if_pos ⟨rfl, by omega, by omega⟩]; rfl
  | short => rfl
  | end_ => rfl
theorem readA_do : ∀ n, n < 100 → readA (doW ++ 32 :: num2 n) = some (0, (n : Int)) := by decide +kernel
theorem readA_back : ∀ n, n < 100 → readA (backW ++ 32 :: num2 n) = some (1, (n : Int)) := by decide +kernel
theorem HasT.read {k n : Int} {s : List UInt8} (h : HasT k n s) : readA s = some (k, n) := by
  cases h with
  | do_ m hm => exact readA_do m hm
  | back m hm => exact readA_back m hm
  | short => rfl
  | end_ => rfl
/-- a text of an act ends in a byte that is no space -/
theorem num2_last : ∀ n, n < 100 → (num2 n).getLast? ≠ some 32 := by decide +kernel
theorem HasT.last {k n : Int} {s : List UInt8} (h : HasT k n s) : s.getLast? ≠ some 32 := by
  cases h with
  | do_ m hm =>
    have := num2_last m hm
    have h2 := num2_len m
    rw [List.getLast?_append]
    rw [List.getLast?_cons]
    cases h3 : (num2 m).getLast? with
    | none => simp at h3; simp [h3] at h2
    | some c => rw [h3] at this; simpa using this
  | back m hm =>
    have := num2_last m hm
    have h2 := num2_len m
    rw [List.getLast?_append]
    rw [List.getLast?_cons]
    cases h3 : (num2 m).getLast? with
    | none => simp at h3; simp [h3] at h2
    | some c => rw [h3] at this; simpa using this
  | short => decide
  | end_ => decide
theorem HasT.len {k n : Int} {s : List UInt8} (h : HasT k n s) : s.length ≤ 7 := by
  cases h with
  | do_ m hm => have := num2_len m; simp [doW]; omega
  | back m hm => have := num2_len m; simp [backW]; omega
  | short => decide
  | end_ => decide

/-! ### the reference's words and numbers -/
/-- what stands between the bytes sep, behind what is being read -/
def cutW (sep : UInt8) (cur : List UInt8) : List UInt8 → List (List UInt8)
  | [] => [cur]
  | c :: cs => if c = sep then cur :: cutW sep [] cs else cutW sep (cur ++ [c]) cs
def digsGo (acc : Int) : List UInt8 → Int
  | [] => acc
  | c :: cs => if c.toNat < 48 ∨ 57 < c.toNat then -1 else digsGo (10 * acc + ((c.toNat : Int) - 48)) cs
/-- the number of a text of one to four digits, -1 for others -/
def digs (s : List UInt8) : Int :=
  if s.length < 1 ∨ 4 < s.length ∨ 1 < s.length ∧ s.head? = some 48 then -1 else digsGo 0 s
/-- the acts that the reference looks at -/
def listA (s : List UInt8) : List (Int × Int) :=
  (2, 0) :: (3, 0) :: (match cutW 32 [] s with | [_, w] => [(0, digs w), (1, digs w)] | _ => [])
/-- the first act of a list whose text it is -/
def findA (s : List UInt8) : List (Int × Int) → Option (Int × Int)
  | [] => none
  | a :: l => if s ≠ [] ∧ actT a.1 a.2 = s then some a else findA s l
/-! ### journals -/
def jText (aa : List (Int × Int)) : List UInt8 :=
  if aa.all (fun a => actT a.1 a.2 != []) = true then aa.flatMap fun a => actT a.1 a.2 ++ [10] else []
/-- what is read of a text, behind the beginning of a line -/
def readJ (cur : List UInt8) : List UInt8 → List (Int × Int) × Nat
  | [] => ([], 0)
  | c :: cs =>
    if c = 10 then
      match readA cur with
      | none => ([], 0)
      | some a => (a :: (readJ [] cs).1, cur.length + 1 + (readJ [] cs).2)
    else readJ (cur ++ [c]) cs
end Go.Proofs.YtgnmlpklojgpfaaDoor
