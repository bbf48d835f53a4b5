/- GraphValid of the program and of the reference, for every graph. (The first half stands in XGraph too, for the seat of round r1: never import both.) -/
import Derived.Test.YtfgebdioffeliaaSBValid
import Derived.Test.YtfgebdioffeliaaSPush
import Derived.RegionTactic
import Derived.ChangeAlike
namespace Go.Proofs.Ytfgebdioffeliaa
set_option linter.unusedVariables false
set_option linter.unusedSimpArgs false
open Go.ChangeShapes Go.WideShapes Go.ChangeAt Go.RowKit
/-! ### valid graphs -/
/-- the rows of a graph, as the program asks them: in range, without itself, in both directions -/
def rowOk (n : Nat) (k : Nat) (s : Int) : Bool := decide (0 ≤ s ∧ s < 2 ^ n) && !(bit s.toNat k == 1)
def graphOk (xs : List Int) : Bool :=
  decide (1 ≤ xs.length ∧ xs.length ≤ 9) && (List.range xs.length).all (fun k => rowOk xs.length k (xs.getD k 0)) &&
    (List.range xs.length).all (fun k => (List.range xs.length).all fun j => bit (xs.getD k 0).toNat j == bit (xs.getD j 0).toNat k)

theorem graphOk_size (xs : List Int) (h : ¬ (1 ≤ xs.length ∧ xs.length ≤ 9)) : graphOk xs = false := by
  unfold graphOk; rw [decide_eq_false h]; simp
theorem graphOk_row (xs : List Int) (k : Nat) (hk : k < xs.length) (h : rowOk xs.length k (xs.getD k 0) = false) : graphOk xs = false := by
  unfold graphOk
  have : ((List.range xs.length).all fun k => rowOk xs.length k (xs.getD k 0)) = false := by
    rw [List.all_eq_false]
    exact ⟨k, List.mem_range.2 hk, by rw [h]; simp⟩
  rw [this]; simp
theorem graphOk_pair (xs : List Int) (k j : Nat) (hk : k < xs.length) (hj : j < xs.length) (h : ¬ bit (xs.getD k 0).toNat j = bit (xs.getD j 0).toNat k) : graphOk xs = false := by
  unfold graphOk
  have : ((List.range xs.length).all fun k => (List.range xs.length).all fun j => bit (xs.getD k 0).toNat j == bit (xs.getD j 0).toNat k) = false := by
    rw [List.all_eq_false]
    refine ⟨k, List.mem_range.2 hk, ?_⟩
    simp only [Bool.not_eq_true]
    rw [List.all_eq_false]
    exact ⟨j, List.mem_range.2 hj, by simpa using h⟩
  rw [this]; simp
theorem graphOk_all (xs : List Int) (hn : 1 ≤ xs.length ∧ xs.length ≤ 9) (h1 : ∀ k, k < xs.length → rowOk xs.length k (xs.getD k 0) = true)
    (h2 : ∀ k, k < xs.length → ∀ j, j < xs.length → bit (xs.getD k 0).toNat j = bit (xs.getD j 0).toNat k) : graphOk xs = true := by
  unfold graphOk
  rw [decide_eq_true hn]
  simp only [Bool.true_and, Bool.and_eq_true, List.all_eq_true, List.mem_range]
  exact ⟨h1, fun k hk j hj => by simpa using h2 k hk j hj⟩

theorem graphValid_impl (A : Option Addr) (n c : Nat) (xs : List Int) (w : World) (h : RdI .i64 w w.heap.size A n c xs) :
    Calls Try.prog 49 #[.agg #[.slice A n c]] w fun e w' => e = .returned (.bool (graphOk xs)) ∧ Below w.heap.size w w' := by
  have hlen := h.len
  have hcap := h.cap
  have hmax := h.capMax
  unfold maxLen at hmax
  by_cases hn : 1 ≤ n ∧ n ≤ 9
  · obtain ⟨hn1, hn9⟩ := hn
    obtain ⟨b, off, rfl, hb, hcell⟩ := h.at_ (by omega)
    have HC := Lib.hid hcell; clear hcell
    have HL := Lib.hid hlen; clear hlen
    have hw := wrap_pow n (by omega)
    have hp9 := pow_le_int n 9 hn9
    have hp1 : 1 ≤ (2 : Int) ^ n := Int.pow_pos (by omega)
    go_enter Try.func49, Try.ntmps49
    go_wp2
    go_loop [21] (fun i => ∃ k : Nat, k ≤ n ∧ i = .int .i64 k ∧ Hid (∀ j, j < k → rowOk n j (xs.getD j 0) = true)) (fun i => n - (intOf i).toNat)
    case atStart => exact ⟨0, by omega, rfl, Lib.hid (by omega)⟩
    case round =>
      obtain ⟨k, hk, rfl, hrows⟩ := hrel
      by_cases hlt : k < n
      · obtain ⟨x, hx⟩ : ∃ x, xs[k]? = some x := ⟨xs[k]'(by rw [HL.out]; exact hlt), List.getElem?_eq_getElem _⟩
        have hc := HC.out k x hx
        have hwf := wf_i64 (h.wf x (List.mem_of_getElem? hx))
        obtain ⟨hwf1, hwf2⟩ := hwf
        have hxd : xs.getD k 0 = x := by rw [List.getD, hx]; rfl
        have HX := Lib.hid hxd
        clear hx hxd
        by_cases hx0 : x < 0
        · have HF := Lib.hid (graphOk_row xs k (by rw [HL.out]; exact hlt) (by rw [HL.out, HX.out]; unfold rowOk; rw [decide_eq_false (by omega), Bool.false_and]))
          go_wp2
          go_ret
          exact ⟨ret_bool HF.out.symm, (Below.refl _ _).alloc (Nat.le_refl _) _⟩
        · obtain ⟨m, rfl⟩ := Int.eq_ofNat_of_zero_le (by omega : 0 ≤ x)
          by_cases hx1 : (m : Int) < 2 ^ n
          · have hbit := and_one m k (by omega)
            have hb2 := bit_lt m k
            by_cases hbb : bit m k = 1
            · have HF := Lib.hid (graphOk_row xs k (by rw [HL.out]; exact hlt) (by rw [HL.out, HX.out]; unfold rowOk; rw [Int.toNat_natCast, hbb]; simp))
              rw [hbb] at hbit
              go_wp2
              go_ret
              exact ⟨ret_bool HF.out.symm, (Below.refl _ _).alloc (Nat.le_refl _) _⟩
            · have hbb0 : bit m k = 0 := by omega
              rw [hbb0] at hbit
              have HR : Hid (rowOk n k (xs.getD k 0) = true) := Lib.hid (by rw [HX.out]; unfold rowOk; rw [Int.toNat_natCast, hbb0, decide_eq_true ⟨by omega, hx1⟩]; rfl)
              clear hbb0 hbb hb2
              go_wp2
              go_round
              case rel => exact ⟨k + 1, by omega, by go_num, Lib.hid fun j hj => by
                rcases Nat.lt_or_ge j k with h1 | h1
                · exact hrows.out j h1
                · obtain rfl : j = k := by omega
                  exact HR.out⟩
              case measure => simp [intOf]; omega
          · have HF := Lib.hid (graphOk_row xs k (by rw [HL.out]; exact hlt) (by rw [HL.out, HX.out]; unfold rowOk; rw [decide_eq_false (by omega), Bool.false_and]))
            go_wp2
            go_ret
            exact ⟨ret_bool HF.out.symm, (Below.refl _ _).alloc (Nat.le_refl _) _⟩
      · obtain rfl : k = n := by omega
        have hrow1 := hrows.out
        have HM : Hid (∀ j, j < k → ∃ m : Nat, xs[j]? = some (m : Int) ∧ m < 512 ∧ w.cell? ⟨b, off + j, none⟩ = some (.int .i64 (m : Int)) ∧ (xs.getD j 0).toNat = m) := Lib.hid fun j hj => by
          have h1 := hrow1 j hj
          obtain ⟨x, hx⟩ : ∃ x, xs[j]? = some x := ⟨xs[j]'(by rw [HL.out]; exact hj), List.getElem?_eq_getElem _⟩
          have hxd : xs.getD j 0 = x := by rw [List.getD, hx]; rfl
          rw [hxd] at h1 ⊢
          unfold rowOk at h1
          simp only [Bool.and_eq_true, decide_eq_true_eq] at h1
          obtain ⟨⟨h0, h2⟩, -⟩ := h1
          obtain ⟨m, rfl⟩ := Int.eq_ofNat_of_zero_le h0
          exact ⟨m, hx, by omega, HC.out j _ hx, Int.toNat_natCast m⟩
        have HRow : Hid (∀ j, j < k → rowOk k j (xs.getD j 0) = true) := Lib.hid hrow1
        clear hrow1 hrows hw hp9 hp1
        go_wp2
        go_loopw [45] (fun i wr => ∃ a q : Nat, a ≤ k ∧ i = .int .i64 a ∧ Hid (∀ a', a' < a → ∀ j, j < k → bit (xs.getD a' 0).toNat j = bit (xs.getD j 0).toNat a') ∧ wr = (w.alloc (Obj.cells #[Value.slice (some ⟨b, off, none⟩) k c] 25)).drewN q) (fun i _ => k - (intOf i).toNat)
        case atStart => exact ⟨0, 0, by omega, rfl, Lib.hid (by omega), rfl⟩
        case round =>
          obtain ⟨a, q, ha, rfl, hpre, rfl⟩ := hrel
          by_cases hak : a < k
          · obtain ⟨x, hx, hx9, hxc, hxd⟩ := HM.out a hak
            have HXD := Lib.hid hxd
            clear hx hxd
            go_wp2
            go_loopw [51] (fun i wr => ∃ j q : Nat, j ≤ k ∧ i = .int .i64 j ∧ Hid (∀ j', j' < j → bit x j' = bit (xs.getD j' 0).toNat a) ∧ wr = (w.alloc (Obj.cells #[Value.slice (some ⟨b, off, none⟩) k c] 25)).drewN q) (fun i _ => k - (intOf i).toNat)
            case atStart => exact ⟨0, q, by omega, rfl, Lib.hid (by omega), rfl⟩
            case round =>
              obtain ⟨j, q', hj, rfl, hpre', rfl⟩ := hrel
              by_cases hjk : j < k
              · obtain ⟨y, hy, hy9, hyc, hyd⟩ := HM.out j hjk
                have HYD := Lib.hid hyd
                have hb1 := and_one x j (by omega)
                have hb2 := and_one y a (by omega)
                have hl1 := bit_lt x j
                have hl2 := bit_lt y a
                clear hy hyd
                by_cases heq : bit x j = bit y a
                · have HEQ := Lib.hid heq
                  rw [heq] at hb1
                  clear heq
                  go_wp2
                  go_quiet (fail)
                  go_wp2
                  go_roundw
                  case rel => exact ⟨j + 1, _, by omega, by go_num, Lib.hid fun j' hj' => by
                    rcases Nat.lt_or_ge j' j with h1 | h1
                    · exact hpre'.out j' h1
                    · obtain rfl : j' = j := by omega
                      rw [HYD.out]; exact HEQ.out, rfl⟩
                  case measure => simp [intOf]; omega
                · have HF := Lib.hid (graphOk_pair xs a j (by rw [HL.out]; exact hak) (by rw [HL.out]; exact hjk) (by rw [HXD.out, HYD.out]; exact heq))
                  have hne : (((bit x j : Nat) : Int) != ((bit y a : Nat) : Int)) = true := by rw [bne_iff_ne]; omega
                  clear heq
                  go_wp2
                  go_quiet (fail)
                  go_wp2
                  go_ret
                  exact ⟨ret_bool HF.out.symm, below_drewN (below_drewN ((Below.refl _ _).alloc (Nat.le_refl _) _) _) _⟩
              · have hjk' : j = k := by omega
                have HJ := Lib.hid hjk'
                clear hjk'
                go_wp2
                go_roundw
                case rel => exact ⟨a + 1, _, by omega, by go_num, Lib.hid fun a' ha' j' hj' => by
                    rcases Nat.lt_or_ge a' a with h1 | h1
                    · exact hpre.out a' h1 j' hj'
                    · obtain rfl : a' = a := by omega
                      rw [HXD.out]; exact hpre'.out j' (by rw [HJ.out]; exact hj'), rfl⟩
                case measure => simp [intOf]; omega
          · have hak' : a = k := by omega
            have HF := Lib.hid (graphOk_all xs (by rw [HL.out]; exact ⟨hn1, hn9⟩) (by rw [HL.out]; exact HRow.out) (by rw [HL.out]; intro a' h1 j hj; exact hpre.out a' (by omega) j hj))
            clear hak'
            go_wp2
            go_ret
            exact ⟨ret_bool HF.out.symm, below_drewN ((Below.refl _ _).alloc (Nat.le_refl _) _) _⟩
  · have HF := Lib.hid (graphOk_size xs (by rw [hlen]; exact hn))
    go_enter Try.func49, Try.ntmps49
    go_wp2
    all_goals first | (exfalso; omega) | go_ret
    all_goals exact ⟨ret_bool HF.out.symm, (Below.refl _ _).alloc (Nat.le_refl _) _⟩

theorem graphOk_len (xs : List Int) (h : graphOk xs = true) : 1 ≤ xs.length ∧ xs.length ≤ 9 := by
  by_cases hn : 1 ≤ xs.length ∧ xs.length ≤ 9
  · exact hn
  · rw [graphOk_size xs hn] at h; cases h
theorem graphOk_at (xs : List Int) (h : graphOk xs = true) (k : Nat) (x : Int) (hx : xs[k]? = some x) : 0 ≤ x ∧ x < 2 ^ xs.length ∧ bit x.toNat k = 0 := by
  have hk := (List.getElem?_eq_some_iff.1 hx).1
  have hd : xs.getD k 0 = x := by rw [List.getD, hx]; rfl
  unfold graphOk at h
  simp only [Bool.and_eq_true, List.all_eq_true, List.mem_range] at h
  have h1 := h.1.2 k hk
  rw [hd] at h1
  unfold rowOk at h1
  simp only [Bool.and_eq_true, decide_eq_true_eq] at h1
  have := bit_lt x.toNat k
  refine ⟨h1.1.1, h1.1.2, ?_⟩
  have h2 := h1.2
  obtain e | e : bit x.toNat k = 0 ∨ bit x.toNat k = 1 := by omega
  · exact e
  · rw [e] at h2; simp at h2
theorem graphOk_low (xs : List Int) (hn : 1 ≤ xs.length ∧ xs.length ≤ 9) (h1 : ∀ k, k < xs.length → rowOk xs.length k (xs.getD k 0) = true)
    (h2 : ∀ k, k < xs.length → ∀ j, j < k → bit (xs.getD k 0).toNat j = bit (xs.getD j 0).toNat k) : graphOk xs = true :=
  graphOk_all xs hn h1 fun k hk j hj => by
    rcases Nat.lt_trichotomy j k with h | h | h
    · exact h2 k hk j h
    · subst h; rfl
    · exact (h2 j hj k h).symm
set_option maxRecDepth 100000 in
set_option maxHeartbeats 1000000 in
theorem graphValid_spec (A : Option Addr) (n c : Nat) (xs : List Int) (w : World) (h : RdI .i64 w w.heap.size A n c xs) :
    Calls Try.prog 50 #[.agg #[.slice A n c]] w fun e w' => e = .returned (.bool (graphOk xs)) ∧ Below w.heap.size w w' := by
  have HL := Lib.hid h.len
  have hcap := h.cap
  have hmax := h.capMax
  unfold maxLen at hmax
  have S0 := (St.refl w).alloc #[.slice A n c] 25
  have HS0 := Lib.hid S0
  clear S0
  by_cases hn : 1 ≤ n ∧ n ≤ 9
  case neg =>
    have HF := Lib.hid (graphOk_size xs (by rw [HL.out]; exact hn))
    go_enter Try.func50, Try.ntmps50
    go_wp2_with fail
    refine (l1In_no (n : Int) 1 9 _ (by omega)).mono ?_
    rintro e w1 ⟨rfl, rfl⟩
    go_wp2
    go_ret
    exact ⟨ret_bool HF.out.symm, HS0.out.below⟩
  obtain ⟨hn1, hn9⟩ := hn
  have hw := wrap_pow n (by omega)
  have hp9 := pow_le_int n 9 hn9
  have hp1 : 1 ≤ (2 : Int) ^ n := Int.pow_pos (by omega)
  go_enter Try.func50, Try.ntmps50
  go_wp2_with fail
  refine (l1In_yes (n : Int) 1 9 _ (by omega) (by omega)).mono ?_
  rintro e w1 ⟨rfl, rfl⟩
  go_wp2
  go_loopw [4] (fun i wr => ∃ k : Nat, k ≤ n ∧ i = .int .i64 k ∧ Hid (∀ j, j < k → rowOk n j (xs.getD j 0) = true) ∧ Hid (∀ a, a < k → ∀ j, j < a → bit (xs.getD a 0).toNat j = bit (xs.getD j 0).toNat a) ∧ St w wr [rBlk w.heap.size 25 #[.slice A n c]]) (fun i _ => n - (intOf i).toNat)
  case atStart => exact ⟨0, by omega, rfl, Lib.hid (by omega), Lib.hid (by omega), HS0.out⟩
  case round =>
    obtain ⟨k, hk, rfl, HR, HB, M⟩ := hrel
    have q0 : ∀ j, wr.cell? ⟨w.heap.size, j, none⟩ = _ := M.cells 0 rfl
    by_cases hlt : k < n
    · obtain ⟨b, off, x, rfl, hb, hx, hwf, hc⟩ := h.get hlt
      have hcr : wr.cell? ⟨b, off + k, none⟩ = some (.int .i64 x) := (bcells M.below b _ hb).trans hc
      have hxd : xs.getD k 0 = x := by rw [List.getD, hx]; rfl
      have HX := Lib.hid hxd
      have HM := Lib.hid M
      have hwf2 := wf_i64 hwf
      obtain ⟨hwf1, hwf2⟩ := hwf2
      clear hx hc hxd M hwf
      by_cases hin : 0 ≤ x ∧ x < 2 ^ n
      case neg =>
        have HF := Lib.hid (graphOk_row xs k (by rw [HL.out]; exact hlt) (by rw [HL.out, HX.out]; unfold rowOk; rw [decide_eq_false hin, Bool.false_and]))
        have HC := Lib.hid (fun w => l1In_no x 0 ((2 : Int) ^ n - 1) w (by omega))
        clear hin
        go_upto_region 7 with (fail)
        go_quiet ((go_at_call 51; with_reducible exact quiet_left (HC.out _)))
        go_wp2
        go_ret
        exact ⟨ret_bool HF.out.symm, HM.out.below.trans (below_drewN (Below.refl _ _) _)⟩
      obtain ⟨x0, x1⟩ := hin
      obtain ⟨m, rfl⟩ := Int.eq_ofNat_of_zero_le x0
      have HC := Lib.hid (fun w => l1In_yes (m : Int) 0 ((2 : Int) ^ n - 1) w (by omega) (by omega))
      have hbl := bit_lt m k
      have hbt := fun w => l1Bit_nat m k (by omega) w
      by_cases hbb : bit m k = 1
      · have HF := Lib.hid (graphOk_row xs k (by rw [HL.out]; exact hlt) (by rw [HL.out, HX.out]; unfold rowOk; rw [Int.toNat_natCast, hbb]; simp))
        simp only [hbb] at hbt
        have HC2 := Lib.hid hbt
        clear hbt hbb
        go_upto_region 7 with (fail)
        go_quiet (first | (go_at_call 51; with_reducible exact quiet_left (HC.out _)) | (go_at_call 59; with_reducible exact quiet_left (HC2.out _)))
        go_wp2
        go_ret
        exact ⟨ret_bool HF.out.symm, HM.out.below.trans (below_drewN (Below.refl _ _) _)⟩
      · have hbb0 : bit m k = 0 := by omega
        have HRR : Hid (rowOk n k (xs.getD k 0) = true) := Lib.hid (by rw [HX.out]; unfold rowOk; rw [Int.toNat_natCast, hbb0, decide_eq_true ⟨by omega, x1⟩]; rfl)
        simp only [hbb0] at hbt
        have HC2 := Lib.hid hbt
        clear hbt hbb hbb0 hbl
        go_upto_region 7 with (fail)
        go_quiet (first | (go_at_call 51; with_reducible exact quiet_left (HC.out _)) | (go_at_call 59; with_reducible exact quiet_left (HC2.out _)))
        have M1 := HM.out.drewN nq
        have HM1 := Lib.hid M1
        clear M1 q0 hcr
        go_wp2
        go_loopw [5] (fun i wr => ∃ j : Nat, j ≤ k ∧ i = .int .i64 j ∧ Hid (∀ j', j' < j → bit m j' = bit (xs.getD j' 0).toNat k) ∧ St w wr [rBlk w.heap.size 25 #[.slice (some ⟨b, off, none⟩) n c]]) (fun i _ => k - (intOf i).toNat)
        case atStart => exact ⟨0, by omega, rfl, Lib.hid (by omega), HM1.out⟩
        case round =>
          obtain ⟨j, hj, rfl, HP, M⟩ := hrel
          by_cases hjk : j < k
          · obtain ⟨b', off', y, hbe, hb', hy, hwy, hcy⟩ := h.get (i := j) (by omega)
            simp only [Option.some.injEq, Addr.mk.injEq, and_true] at hbe
            obtain ⟨rfl, rfl⟩ := hbe
            obtain ⟨b', off', x', hbe, hb', hx', hwx', hcx⟩ := h.get (i := k) (by omega)
            simp only [Option.some.injEq, Addr.mk.injEq, and_true] at hbe
            obtain ⟨rfl, rfl⟩ := hbe
            have q0 : ∀ j, wr.cell? ⟨w.heap.size, j, none⟩ = _ := M.cells 0 rfl
            have hxm : x' = (m : Int) := by
              have := HX.out
              rw [List.getD, hx'] at this
              exact this
            subst hxm
            have hcxr : wr.cell? ⟨b, off + k, none⟩ = some (.int .i64 (m : Int)) := (bcells M.below b _ hb).trans hcx
            have hyr : 0 ≤ y := by
              have := HR.out j hjk
              rw [List.getD, hy] at this
              unfold rowOk at this
              simp only [Bool.and_eq_true, decide_eq_true_eq, Option.getD_some] at this
              exact this.1.1
            obtain ⟨y', rfl⟩ := Int.eq_ofNat_of_zero_le hyr
            have hcyr : wr.cell? ⟨b, off + j, none⟩ = some (.int .i64 (y' : Int)) := (bcells M.below b _ hb).trans hcy
            have HY : Hid ((xs.getD j 0).toNat = y') := Lib.hid (by rw [List.getD, hy]; rfl)
            have HMM := Lib.hid M
            have hb1 := fun w => l1Bit_nat m j (by omega) w
            have hb2 := fun w => l1Bit_nat y' k (by omega) w
            have hl1 := bit_lt m j
            have hl2 := bit_lt y' k
            clear hx' hy hcx hcy M hwy hwx' hyr
            by_cases heq : bit m j = bit y' k
            · have HEQ := Lib.hid heq
              simp only [heq] at hb1
              have HC3 := Lib.hid hb1
              have HC4 := Lib.hid hb2
              clear heq hb1 hb2
              go_upto_region 12 with (fail)
              go_quiet (first | (go_at_call 59; with_reducible exact quiet_left (HC3.out _)) | (go_at_call 59; with_reducible exact quiet_left (HC4.out _)))
              go_wp2
              go_roundw
              case rel => exact ⟨j + 1, by omega, by go_num, Lib.hid fun j' hj' => by
                rcases Nat.lt_or_ge j' j with h1 | h1
                · exact HP.out j' h1
                · obtain rfl : j' = j := by omega
                  rw [HY.out]; exact HEQ.out, HMM.out.drewN _⟩
              case measure => simp [intOf]; omega
            · have HF := Lib.hid (graphOk_pair xs k j (by rw [HL.out]; exact hlt) (by rw [HL.out]; omega) (by rw [HX.out, HY.out, Int.toNat_natCast]; exact heq))
              have hne : (((bit m j : Nat) : Int) != ((bit y' k : Nat) : Int)) = true := by rw [bne_iff_ne]; omega
              have HC3 := Lib.hid hb1
              have HC4 := Lib.hid hb2
              clear heq hb1 hb2
              go_upto_region 12 with (fail)
              go_quiet (first | (go_at_call 59; with_reducible exact quiet_left (HC3.out _)) | (go_at_call 59; with_reducible exact quiet_left (HC4.out _)))
              go_wp2
              go_ret
              exact ⟨ret_bool HF.out.symm, HMM.out.below.trans (below_drewN (Below.refl _ _) _)⟩
          · have hjk' : j = k := by omega
            have HJ := Lib.hid hjk'
            have HMM := Lib.hid M
            clear hjk' M
            go_wp2
            go_roundw
            case rel => exact ⟨k + 1, by omega, by go_num, Lib.hid (fun j' hj' => by
                rcases Nat.lt_or_ge j' k with h1 | h1
                · exact HR.out j' h1
                · obtain rfl : j' = k := by omega
                  exact HRR.out), Lib.hid (fun a' ha' j' hj' => by
                rcases Nat.lt_or_ge a' k with h1 | h1
                · exact HB.out a' h1 j' hj'
                · obtain rfl : a' = k := by omega
                  rw [HX.out, Int.toNat_natCast]; exact HP.out j' (by rw [HJ.out]; exact hj')), HMM.out⟩
            case measure => simp [intOf]; omega
    · have hkn : k = n := by omega
      have HF := Lib.hid (graphOk_low xs (by rw [HL.out]; exact ⟨hn1, hn9⟩) (by rw [HL.out]; intro j hj; exact HR.out j (by omega)) (by rw [HL.out]; intro a ha j hj; exact HB.out a (by omega) j hj))
      have HM := Lib.hid M
      clear hkn M
      go_wp2
      go_ret
      exact ⟨ret_bool HF.out.symm, HM.out.below⟩
end Go.Proofs.Ytfgebdioffeliaa
