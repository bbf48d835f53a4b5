/- The laws' helpers that count how much an argument holds: szIntS, szDeed, szDeedS, szTask. -/
import Derived.Test.YtpcaagbmjhgnaaaOwn
namespace Go.Proofs.Ytpcaagbmjhgnaaa
open Go.ChangeShapes Go.WideShapes Go.ChangeAt Go.RowKit

/-- what is left of a bound -/
def less (left : Int) (n : Nat) : Int := if (n : Int) ≤ left then left - n else -1
def szD (d : DeedD) : Nat := d.need.length
def szDs (ds : List DeedD) : Nat := ds.length + (ds.map szD).sum
def szT (t : TaskD) : Nat := t.goal.length + szDs t.deeds
theorem less_yes {left : Int} {n : Nat} (h : (n : Int) ≤ left) : less left n = left - n := by unfold less; rw [if_pos h]
theorem less_no {left : Int} {n : Nat} (h : ¬ (n : Int) ≤ left) : less left n = -1 := by unfold less; rw [if_neg h]

theorem szIntS_any (A : Option Addr) (n c : Nat) (left : Int) (w : World) (hn : n ≤ 9223372036854775807) (h0 : 0 ≤ left) (h1 : left ≤ 1048576) :
    Calls Try.prog 73 #[.slice A n c, .int .i64 left] w fun e w' => e = .returned (.int .i64 (less left n)) ∧ w = w' := by
  by_cases h : (n : Int) ≤ left
  · rw [less_yes h]
    go_enter Try.func73, Try.ntmps73
    go_wp2
    go_ret
    exact ⟨rfl, rfl⟩
  · rw [less_no h]
    go_enter Try.func73, Try.ntmps73
    go_wp2
    go_ret
    exact ⟨rfl, rfl⟩

theorem szDeed_any (A : Option Addr) (n c : Nat) (on off fl left : Int) (w : World) (hn : n ≤ 9223372036854775807) (h0 : 0 ≤ left) (h1 : left ≤ 1048576) :
    Calls Try.prog 135 #[.agg #[.slice A n c, .int .i64 on, .int .i64 off, .int .i64 fl], .int .i64 left] w fun e w' => e = .returned (.int .i64 (less left n)) ∧ Below w.heap.size w w' := by
  by_cases h : (n : Int) ≤ left
  · rw [less_yes h]
    go_enter Try.func135, Try.ntmps135
    go_wp2_with (go_at_call 73; refine (szIntS_any A n c left _ hn h0 h1).mono ?_; rw [less_yes h]; rintro e w' ⟨rfl, rfl⟩)
    go_ret
    exact ⟨rfl, (Below.refl _ _).alloc (Nat.le_refl _) _⟩
  · rw [less_no h]
    go_enter Try.func135, Try.ntmps135
    go_wp2_with (go_at_call 73; refine (szIntS_any A n c left _ hn h0 h1).mono ?_; rw [less_no h]; rintro e w' ⟨rfl, rfl⟩)
    go_ret
    exact ⟨rfl, (Below.refl _ _).alloc (Nat.le_refl _) _⟩

theorem sum_take (ds : List DeedD) (k : Nat) (d : DeedD) (hd : ds[k]? = some d) : ((ds.take (k + 1)).map szD).sum = ((ds.take k).map szD).sum + szD d := by
  obtain ⟨hk, he⟩ := List.getElem?_eq_some_iff.1 hd
  rw [List.take_succ_eq_append_getElem hk, he]; simp
theorem sum_take_le (ds : List DeedD) (k : Nat) : ((ds.take k).map szD).sum ≤ (ds.map szD).sum := by
  conv => rhs; rw [← List.take_append_drop k ds]
  rw [List.map_append, List.sum_append]; omega

theorem szDeedS_any {M : Nat} (hM : M ≤ 9223372036854775807) (A : Option Addr) (n c : Nat) (ds : List DeedD) (left : Int) (w : World) (h : RdDsM M w w.heap.size A n c ds) (h0 : 0 ≤ left) (h1 : left ≤ 1048576) :
    Calls Try.prog 83 #[.slice A n c, .int .i64 left] w fun e w' => e = .returned (.int .i64 (less left (szDs ds))) ∧ Below w.heap.size w w' := by
  have hl := h.len
  have hs := h.small
  have hsz : szDs ds = n + (ds.map szD).sum := by unfold szDs; rw [hl]
  have HL := Lib.hid hl
  have HSZ := Lib.hid hsz
  clear hl hsz
  by_cases hn : (n : Int) ≤ left
  case neg =>
    have HV : Hid (less left (szDs ds) = -1) := Lib.hid (less_no (by rw [HSZ.out]; omega))
    go_enter Try.func83, Try.ntmps83
    go_wp2
    go_ret
    exact ⟨ret_int HV.out.symm, Below.refl _ _⟩
  go_enter Try.func83, Try.ntmps83
  go_wp2
  go_loopw [5, 1] (fun i l wr => ∃ (k s : Nat), k ≤ n ∧ i = .int .i64 k ∧ l = .int .i64 (left - n - s) ∧ (s : Int) ≤ left - n ∧ Hid (((ds.take k).map szD).sum = s) ∧ Below w.heap.size w wr) (fun i _ _ => n - (intOf i).toNat)
  case atStart => exact ⟨0, 0, by omega, rfl, by simp, by omega, Lib.hid rfl, Below.refl _ _⟩
  case round =>
    obtain ⟨k, s, hk, rfl, rfl, hsl, hsum, hbel⟩ := hrel
    by_cases hlt : k < n
    · obtain ⟨b, off, d, rfl, hb, hd, hda⟩ := h.get hlt
      obtain ⟨An, nn, cn, q0, q1, q2, q3, hneed, hnn, -⟩ := (hda.keep hb (bcells hbel))
      have hst := sum_take ds k d hd
      rw [hsum.out] at hst
      have hdn : szD d = nn := hneed.len
      rw [hdn] at hst
      have HST := Lib.hid hst
      clear hd hda hst hdn
      go_wp2_with fail
      refine (szDeed_any An nn cn _ _ _ _ _ (by omega) (by omega) (by omega)).mono ?_
      by_cases hnx : (nn : Int) ≤ left - n - s
      · rw [less_yes hnx]
        rintro e w2 ⟨rfl, hb2⟩
        have hbel2 := hbel.trans (hb2.mono hbel.size)
        go_wp2
        go_roundw
        case rel => exact ⟨k + 1, s + nn, by omega, by go_num, by congr 1; omega, by omega, Lib.hid HST.out, hbel2⟩
        case measure => simp [intOf]; omega
      · rw [less_no hnx]
        rintro e w2 ⟨rfl, hb2⟩
        have hbel2 := hbel.trans (hb2.mono hbel.size)
        have HV : Hid (less left (szDs ds) = -1) := Lib.hid (less_no (by
          rw [HSZ.out]
          have := sum_take_le ds (k + 1)
          rw [HST.out] at this
          omega))
        go_wp2
        go_ret
        exact ⟨ret_int HV.out.symm, hbel2⟩
    · have hkn : k = n := by omega
      have hsm := hsum.out
      rw [hkn, ← HL.out, List.take_length] at hsm
      have HV : Hid (less left (szDs ds) = left - n - s) := Lib.hid (by rw [HSZ.out, hsm, less_yes (by omega)]; omega)
      clear hsm hkn
      go_wp2
      go_ret
      exact ⟨ret_int HV.out.symm, hbel⟩

theorem szTask_any {M : Nat} (hM : M ≤ 9223372036854775807) (v : Value) (t : TaskD) (left : Int) (w : World) (h : RdTM M w w.heap.size v t) (h0 : 0 ≤ left) (h1 : left ≤ 1048576) :
    Calls Try.prog 24 #[v, .int .i64 left] w fun e w' => e = .returned (.int .i64 (less left (szT t))) ∧ Below w.heap.size w w' := by
  obtain ⟨A, n, c, A', n', c', rfl, hg, hgs, hds, hst⟩ := h
  have hb0 : Below w.heap.size w (w.alloc (Obj.cells #[.int .i64 t.start, .slice A n c, .slice A' n' c'] 39)) := (Below.refl _ _).alloc (Nat.le_refl _) _
  have HDS := Lib.hid (hds.up hb0)
  have hsz : szT t = n + szDs t.deeds := by unfold szT; rw [hg.len]
  have HSZ := Lib.hid hsz
  clear hsz
  by_cases hn : (n : Int) ≤ left
  · go_enter Try.func24, Try.ntmps24
    go_wp2_with fail
    refine (szIntS_any A n c left _ (by omega) h0 h1).mono ?_
    rw [less_yes hn]
    rintro e w' ⟨rfl, rfl⟩
    go_wp2_with fail
    refine (szDeedS_any hM A' n' c' t.deeds _ _ HDS.out (by omega) (by omega)).mono ?_
    by_cases h2 : ((szDs t.deeds : Nat) : Int) ≤ left - n
    · rw [less_yes h2]
      have HV : Hid (less left (szT t) = left - n - (szDs t.deeds : Nat)) := Lib.hid (by rw [HSZ.out, less_yes (by omega)]; omega)
      generalize szDs t.deeds = z at *
      rintro e w2 ⟨rfl, hb2⟩
      go_wp2
      go_ret
      exact ⟨ret_int HV.out.symm, hb0.trans (hb2.mono hb0.size)⟩
    · rw [less_no h2]
      have HV : Hid (less left (szT t) = -1) := Lib.hid (less_no (by rw [HSZ.out]; omega))
      rintro e w2 ⟨rfl, hb2⟩
      go_wp2
      go_ret
      exact ⟨ret_int HV.out.symm, hb0.trans (hb2.mono hb0.size)⟩
  · have HV : Hid (less left (szT t) = -1) := Lib.hid (less_no (by rw [HSZ.out]; omega))
    go_enter Try.func24, Try.ntmps24
    go_wp2_with fail
    refine (szIntS_any A n c left _ (by omega) h0 h1).mono ?_
    rw [less_no (show ¬ (n : Int) ≤ left by omega)]
    rintro e w' ⟨rfl, rfl⟩
    go_wp2
    go_ret
    exact ⟨ret_int HV.out.symm, hb0⟩
end Go.Proofs.Ytpcaagbmjhgnaaa
