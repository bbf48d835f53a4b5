/- readNumber of the program, l1Digits, l1In, l1Number (below 100) of the reference. -/
import Derived.Test.YtadlfffhddpajaaDoorSTextP
namespace Go.Proofs.YtadlfffhddpajaaDoor
set_option linter.unusedVariables false
set_option linter.unusedSimpArgs false
open Go.ChangeShapes Go.WideShapes Go.ChangeAt Go.RowKit

/-- a number of digits, read from the left -/
def rdGo (acc : Int) : List UInt8 → Option Int
  | [] => some acc
  | c :: cs => if c.toNat < 48 ∨ 57 < c.toNat then none else rdGo (acc * 10 + ((c.toNat : Int) - 48)) cs
def rdNum (d : Int) (t : List UInt8) : Option Int :=
  if t = [] ∨ d < (t.length : Int) ∨ t.head? = some 48 ∧ 1 < t.length then none else rdGo 0 t
theorem rdNum_readN (t : List UInt8) : rdNum 2 t = (readN t).map fun (n : Nat) => (n : Int) := by
  match t with
  | [] => rfl
  | [c] =>
    have h1 : c.toNat < 256 := UInt8.toNat_lt c
    simp only [rdNum, readN, rdGo, isDig]
    by_cases h : c.toNat < 48 ∨ 57 < c.toNat
    · have h2 : ¬ (48 ≤ c.toNat ∧ c.toNat ≤ 57) := by omega
      simp [h, h2]
    · have h2 : 48 ≤ c.toNat ∧ c.toNat ≤ 57 := by omega
      simp [h, h2]; omega
  | [c, d] =>
    simp only [rdNum, readN, rdGo, isDig]
    by_cases h0 : c = 48
    · simp [h0]
    · by_cases h : c.toNat < 48 ∨ 57 < c.toNat
      · have h2 : ¬ (48 ≤ c.toNat ∧ c.toNat ≤ 57) := by omega
        simp [h, h2, h0]
      · have h2 : 48 ≤ c.toNat ∧ c.toNat ≤ 57 := by omega
        by_cases h' : d.toNat < 48 ∨ 57 < d.toNat
        · have h3 : ¬ (48 ≤ d.toNat ∧ d.toNat ≤ 57) := by omega
          simp [h, h2, h0, h', h3]
        · have h3 : 48 ≤ d.toNat ∧ d.toNat ≤ 57 := by omega
          simp [h, h2, h0, h', h3]; omega
  | a :: b :: c :: r =>
    simp [rdNum, readN]; omega
theorem drop_at (s : ByteArray) (k : Nat) (h : k < s.size) : s.data.toList.drop k = s[k] :: s.data.toList.drop (k + 1) := by
  rw [List.drop_eq_getElem_cons (by rw [← Lib.size_eq]; exact h)]
  rfl
theorem drop_end (s : ByteArray) (k : Nat) (h : s.size ≤ k) : s.data.toList.drop k = [] := List.drop_eq_nil_of_le (by rw [← Lib.size_eq]; exact h)
theorem rdGo_step {acc : Int} {s : ByteArray} {k : Nat} (h : k < s.size) (h1 : 48 ≤ (s[k].toNat : Int)) (h2 : (s[k].toNat : Int) ≤ 57) : rdGo acc (s.data.toList.drop k) = rdGo (acc * 10 + ((s[k].toNat : Int) - 48)) (s.data.toList.drop (k + 1)) := by
  rw [drop_at s k h]
  simp only [rdGo]
  rw [if_neg (by omega)]
theorem rdGo_bad {acc : Int} {s : ByteArray} {k : Nat} (h : k < s.size) (h1 : (s[k].toNat : Int) < 48 ∨ 57 < (s[k].toNat : Int)) : rdGo acc (s.data.toList.drop k) = none := by
  rw [drop_at s k h]
  simp only [rdGo]
  rw [if_pos (by omega)]
theorem pow10_le (k : Nat) (h : k ≤ 17) : (10 : Int) ^ k ≤ 100000000000000000 := by
  have h1 := Nat.pow_le_pow_right (n := 10) (by omega) h
  have e : (10 : Nat) ^ 17 = 100000000000000000 := by decide +kernel
  rw [e] at h1
  have h2 := Int.ofNat_le.2 h1
  rw [Int.natCast_pow] at h2
  exact h2
def NumR (o : Option Int) (e : Ending) : Prop := e = .returned (.tuple #[.int .i64 (o.getD 0), .bool o.isSome])
set_option maxRecDepth 100000 in
set_option maxHeartbeats 1000000 in
theorem readNumber_any (s : ByteArray) (d : Int) (w : World) (hd : d ≤ 18) (hs : s.size ≤ 9223372036854775807) :
    Calls Tryd.prog 36 #[.string s, .int .i64 d] w fun e w' => NumR (rdNum d s.data.toList) e ∧ w = w' := by
  have hsl : s.data.toList.length = s.size := (Lib.size_eq s).symm
  have htl : s.toList = s.data.toList := Lib.toList_data s
  by_cases h0 : s.size = 0
  · have he : s.data.toList = [] := List.eq_nil_of_length_eq_zero (by omega)
    have ht : s.toList.isEmpty = true := by rw [htl, he]; rfl
    have HN : Hid (rdNum d s.data.toList = none) := Lib.hid (by unfold rdNum; rw [if_pos (.inl he)])
    clear hsl htl he h0
    go_enter Tryd.func36, Tryd.ntmps36
    go_wp2
    go_ret2
    exact ⟨by rw [HN.out]; rfl, rfl⟩
  have hne : s.data.toList ≠ [] := fun e => by rw [e] at hsl; simp at hsl; omega
  have ht : s.toList.isEmpty = false := by rw [htl]; cases h : s.data.toList with | nil => exact absurd h hne | cons a b => rfl
  have h1 : 0 < s.size := by omega
  by_cases hlt : d < (s.size : Int)
  · have HN : Hid (rdNum d s.data.toList = none) := Lib.hid (by unfold rdNum; rw [if_pos (.inr (.inl (by rw [hsl]; exact hlt)))])
    clear hsl htl hne h0
    go_enter Tryd.func36, Tryd.ntmps36
    go_wp2
    go_ret2
    exact ⟨by rw [HN.out]; rfl, rfl⟩
  have hsz : s.size ≤ 18 := by omega
  have hhd : s.data.toList.head? = some s[0] := by
    have := drop_at s 0 h1
    rw [List.drop_zero] at this
    rw [this]; rfl
  by_cases hz : s[0].toNat = 48 ∧ 1 < s.size
  · obtain ⟨hz, h2⟩ := hz
    have HN : Hid (rdNum d s.data.toList = none) := Lib.hid (by unfold rdNum; rw [if_pos (.inr (.inr ⟨by rw [hhd]; exact congrArg some (UInt8.toNat_inj.1 (by rw [hz]; rfl)), by omega⟩))])
    have hz1 : ((s[0].toNat : Int) == 48) = true := by simp [hz]
    have h2' : (1 : Int) < (s.size : Int) := by omega
    clear hsl htl hne h0 hhd hz
    go_enter Tryd.func36, Tryd.ntmps36
    go_wp2
    go_ret2
    exact ⟨by rw [HN.out]; rfl, rfl⟩
  have HN : Hid (rdNum d s.data.toList = rdGo 0 s.data.toList) := Lib.hid (by
    unfold rdNum
    rw [if_neg]
    rintro (h | h | ⟨h, h'⟩)
    · exact hne h
    · rw [hsl] at h; exact hlt h
    · rw [hhd] at h
      injection h with h
      exact hz ⟨by rw [h]; rfl, by omega⟩)
  have HZ : Hid (¬(s[0].toNat = 48 ∧ 1 < s.size)) := Lib.hid hz
  clear hsl htl hne h0 hhd hz
  have tail : ∀ a : Act, True := fun _ => trivial
  by_cases h48 : s[0].toNat = 48
  · have hz1 : ((s[0].toNat : Int) == 48) = true := by simp [h48]
    have h2' : ¬ (1 : Int) < (s.size : Int) := by have := HZ.out; omega
    clear h48 tail
    go_enter Tryd.func36, Tryd.ntmps36
    go_wp2
    clear hz1
    go_loop [6, 28] (fun n i => ∃ (k : Nat) (acc : Int), k ≤ s.size ∧ i = .int .i64 k ∧ n = .int .i64 acc ∧ Hid (0 ≤ acc ∧ acc < 10 ^ k) ∧ Hid (rdGo 0 s.data.toList = rdGo acc (s.data.toList.drop k))) (fun _ i => s.size - (intOf i).toNat)
    case atStart => exact ⟨0, 0, by omega, rfl, rfl, Lib.hid (by decide), Lib.hid (by rw [List.drop_zero])⟩
    case round =>
      obtain ⟨k, acc, hk, rfl, rfl, hacc, hrd⟩ := hrel
      by_cases hkl : k < s.size
      · have hb : s[k].toNat < 256 := UInt8.toNat_lt _
        by_cases hbad : (s[k].toNat : Int) < 48 ∨ 57 < (s[k].toNat : Int)
        · have HB : Hid (rdNum d s.data.toList = none) := Lib.hid (by rw [HN.out, hrd.out, rdGo_bad hkl hbad])
          rcases hbad with h3 | h3
          · go_wp2
            go_ret2
            exact ⟨by rw [HB.out]; rfl, rfl⟩
          · have h4 : ¬ (s[k].toNat : Int) < 48 := by omega
            go_wp2
            go_ret2
            exact ⟨by rw [HB.out]; rfl, rfl⟩
        · have h3 : ¬ (s[k].toNat : Int) < 48 := by omega
          have h4 : ¬ 57 < (s[k].toNat : Int) := by omega
          have h5 : 48 ≤ (s[k].toNat : Int) := by omega
          have ha0 : 0 ≤ acc := hacc.out.1
          have ha1 : acc < 100000000000000000 := by
            have h6 := hacc.out.2
            have h7 : (10 : Int) ^ k ≤ 100000000000000000 := pow10_le k (by omega)
            omega
          have HS : Hid (rdGo 0 s.data.toList = rdGo (acc * 10 + ((s[k].toNat : Int) - 48)) (s.data.toList.drop (k + 1))) := Lib.hid (by rw [hrd.out]; exact rdGo_step hkl h5 (by omega))
          have HA : Hid (0 ≤ acc * 10 + ((s[k].toNat : Int) - 48) ∧ acc * 10 + ((s[k].toNat : Int) - 48) < 10 ^ (k + 1)) := Lib.hid (by
            have h6 := hacc.out.2
            rw [Int.pow_succ]
            omega)
          clear hbad
          go_wp2
          go_round
          case rel => exact ⟨k + 1, _, by omega, by go_num, rfl, HA, HS⟩
          case measure => simp [intOf]; omega
      · have hke : k = s.size := by omega
        have HE : Hid (rdNum d s.data.toList = some acc) := Lib.hid (by rw [HN.out, hrd.out, drop_end s k (by omega)]; rfl)
        clear hke
        go_wp2
        go_ret2
        exact ⟨by rw [HE.out]; rfl, rfl⟩
  · have hz1 : ((s[0].toNat : Int) == 48) = false := by simp; omega
    clear h48 tail
    go_enter Tryd.func36, Tryd.ntmps36
    go_wp2
    clear hz1
    go_loop [6, 28] (fun n i => ∃ (k : Nat) (acc : Int), k ≤ s.size ∧ i = .int .i64 k ∧ n = .int .i64 acc ∧ Hid (0 ≤ acc ∧ acc < 10 ^ k) ∧ Hid (rdGo 0 s.data.toList = rdGo acc (s.data.toList.drop k))) (fun _ i => s.size - (intOf i).toNat)
    case atStart => exact ⟨0, 0, by omega, rfl, rfl, Lib.hid (by decide), Lib.hid (by rw [List.drop_zero])⟩
    case round =>
      obtain ⟨k, acc, hk, rfl, rfl, hacc, hrd⟩ := hrel
      by_cases hkl : k < s.size
      · have hb : s[k].toNat < 256 := UInt8.toNat_lt _
        by_cases hbad : (s[k].toNat : Int) < 48 ∨ 57 < (s[k].toNat : Int)
        · have HB : Hid (rdNum d s.data.toList = none) := Lib.hid (by rw [HN.out, hrd.out, rdGo_bad hkl hbad])
          rcases hbad with h3 | h3
          · go_wp2
            go_ret2
            exact ⟨by rw [HB.out]; rfl, rfl⟩
          · have h4 : ¬ (s[k].toNat : Int) < 48 := by omega
            go_wp2
            go_ret2
            exact ⟨by rw [HB.out]; rfl, rfl⟩
        · have h3 : ¬ (s[k].toNat : Int) < 48 := by omega
          have h4 : ¬ 57 < (s[k].toNat : Int) := by omega
          have h5 : 48 ≤ (s[k].toNat : Int) := by omega
          have ha0 : 0 ≤ acc := hacc.out.1
          have ha1 : acc < 100000000000000000 := by
            have h6 := hacc.out.2
            have h7 : (10 : Int) ^ k ≤ 100000000000000000 := pow10_le k (by omega)
            omega
          have HS : Hid (rdGo 0 s.data.toList = rdGo (acc * 10 + ((s[k].toNat : Int) - 48)) (s.data.toList.drop (k + 1))) := Lib.hid (by rw [hrd.out]; exact rdGo_step hkl h5 (by omega))
          have HA : Hid (0 ≤ acc * 10 + ((s[k].toNat : Int) - 48) ∧ acc * 10 + ((s[k].toNat : Int) - 48) < 10 ^ (k + 1)) := Lib.hid (by
            have h6 := hacc.out.2
            rw [Int.pow_succ]
            omega)
          clear hbad
          go_wp2
          go_round
          case rel => exact ⟨k + 1, _, by omega, by go_num, rfl, HA, HS⟩
          case measure => simp [intOf]; omega
      · have hke : k = s.size := by omega
        have HE : Hid (rdNum d s.data.toList = some acc) := Lib.hid (by rw [HN.out, hrd.out, drop_end s k (by omega)]; rfl)
        clear hke
        go_wp2
        go_ret2
        exact ⟨by rw [HE.out]; rfl, rfl⟩
end Go.Proofs.YtadlfffhddpajaaDoor
