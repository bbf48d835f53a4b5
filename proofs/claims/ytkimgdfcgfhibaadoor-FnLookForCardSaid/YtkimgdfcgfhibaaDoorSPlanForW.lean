/- Joined texts: PlanForW, StatesBack. -/
import Derived.Test.YtkimgdfcgfhibaaDoorSBack
import Derived.Test.YtkimgdfcgfhibaaDoorSSteps
/- PlanFor of the program. -/
namespace Go.Proofs.YtkimgdfcgfhibaaDoor
set_option linter.unusedVariables false
set_option linter.unusedSimpArgs false
open Go.ChangeShapes Go.WideShapes Go.ChangeAt Go.RowKit

theorem St.rdRow' {w W : World} {L : List HRes} (h : St w W L) (i : Nat) {e : TypeId} {size n c : Nat} {A : Option Addr} {cells : List Value} (hi : L[i]? = some (rRow e size (.slice A n c) n cells)) : RdRow W W.heap.size size A n c cells := by
  obtain ⟨A', c', hv, hr⟩ := h.rdRow i hi
  simp only [Value.slice.injEq, true_and] at hv
  obtain ⟨rfl, rfl⟩ := hv
  exact hr
theorem Sn.cellI {w W : World} {M : Nat → Option HRes} (h : Sn w W M) (i : Nat) {g n c : Nat} {xs : List Int} (hi : M i = some (rInts (.slice (some ⟨g, 0, none⟩) n c) xs)) (hn : xs.length = n) (k : Nat) (x : Int) (hx : xs[k]? = some x) : W.cell? ⟨g, k, none⟩ = some (.int .i64 x) ∧ W.frozen? ⟨g, k, none⟩ = false :=
  St.cellI (h.to_st [i] (by simp) (L := [rInts (.slice (some ⟨g, 0, none⟩) n c) xs]) (by simp only [List.map, hi])) 0 rfl hn k x hx
/-- the value that is looked for, one step nearer -/
def near (ds : List DeedD) (p : Nat → Bool) (m : Nat) : Nat → Bool := fun s' => stpV ds p s' == (m : Int)
theorem stpV_bd (ds : List DeedD) (p : Nat → Bool) (s : Nat) : -1 ≤ stpV ds p s ∧ stpV ds p s ≤ 32 := stpN_le (ds := ds) (S := p) (n := 32) (s := s)
end Go.Proofs.YtkimgdfcgfhibaaDoor

/- StatesBack of the reference, for valid arguments. -/
namespace Go.Proofs.YtkimgdfcgfhibaaDoor
set_option linter.unusedVariables false
set_option linter.unusedSimpArgs false
open Go.ChangeShapes Go.WideShapes Go.ChangeAt Go.RowKit

def outP (ds : List DeedD) (S m k s : Nat) : Bool := upto (backP ds (setP S)) m s || (decide (s = m) && backP (ds.take k) (setP S) m)
theorem outP_zero (ds : List DeedD) (S m : Nat) : mset (outP ds S m 0) 32 = mset (upto (backP ds (setP S)) m) 32 := mset_congr fun s _ => by simp [outP, backP]
theorem backP_take (ds : List DeedD) (S m k : Nat) (d : DeedD) (h : ds[k]? = some d) : backP (ds.take (k + 1)) (setP S) m = (backP (ds.take k) (setP S) m || hitD d S m) := by
  rw [take_succ' h]
  simp [backP, hitD]
theorem outP_no (ds : List DeedD) (S m k : Nat) (d : DeedD) (h : ds[k]? = some d) (hh : hitD d S m = false) : mset (outP ds S m (k + 1)) 32 = mset (outP ds S m k) 32 := mset_congr fun s _ => by
  unfold outP
  rw [backP_take ds S m k d h, hh, Bool.or_false]
theorem outP_yes (ds : List DeedD) (S m k : Nat) (d : DeedD) (h : ds[k]? = some d) (hh : hitD d S m = true) : ∀ s, s < 32 → outP ds S m (k + 1) s = (outP ds S m k s || decide (m = s)) := fun s _ => by
  unfold outP
  rw [backP_take ds S m k d h, hh, Bool.or_true, Bool.and_true]
  by_cases e : s = m
  · subst e; simp
  · simp [e, Ne.symm e]
theorem outP_all (ds : List DeedD) (S m k : Nat) (hk : ds.length ≤ k) : mset (outP ds S m k) 32 = mset (upto (backP ds (setP S)) (m + 1)) 32 := mset_congr fun s _ => by
  unfold outP upto
  rw [List.take_of_length_le hk]
  by_cases e : s = m
  · subst e; simp
  · simp [e, show (s < m + 1) ↔ (s < m) by omega]
theorem either_member {p q : Nat → Bool} {M k : Nat} (hk : k < 32) (hM : M = mset p 32) (hq : ∀ j, j < 32 → q j = (p j || decide (k = j))) : (((M : Int).toNat ||| ((2 : Int) ^ k).toNat : Nat) : Int) = ((mset q 32 : Nat) : Int) := by
  have e : ((2 : Int) ^ k) = ((2 ^ k : Nat) : Int) := by push_cast; rfl
  rw [e, Int.toNat_natCast, Int.toNat_natCast, hM, mset_or_bit _ _ _ hk, mset_congr hq]
theorem pow_int_lt {k : Nat} (h : k < 32) : (0 : Int) ≤ 2 ^ k ∧ (2 : Int) ^ k < 4294967296 := by
  have e : ((2 : Int) ^ k) = ((2 ^ k : Nat) : Int) := by push_cast; rfl
  have h1 := pow32_lt h
  rw [e]
  generalize 2 ^ k = N at h1
  omega
set_option maxRecDepth 100000 in
set_option maxHeartbeats 1000000 in
theorem statesBack_spec (v : Value) (t : TaskD) (S : Nat) (w : World) (h : RdT w w.heap.size v t) (hok : taskOk t = true) (hS : S < 4294967296) :
    Calls Tryd.prog 66 #[v, .int .i64 S] w fun e w' => e = .returned (.int .i64 (mset (backP t.deeds (setP S)) 32 : Nat)) ∧ Below w.heap.size w w' := by
  have h' := h
  obtain ⟨G, gn, gc, G', n', c', rfl, hg, hgs, hds, hst⟩ := h
  have S0 := (St.refl w).alloc #[.int .i64 t.start, .slice G gn gc, .slice G' n' c'] 26
  have HT := Lib.hid (h'.up S0.below)
  have HS0 := Lib.hid S0
  have HOK := Lib.hid hok
  have HDL := Lib.hid hds.len
  have HDS := Lib.hid hds
  obtain ⟨-, -, hn6, hdok⟩ := taskOk_parts t hok
  have HDOK := Lib.hid hdok
  have hn6' : n' ≤ 6 := by rw [← hds.len]; exact hn6
  obtain ⟨B, hB⟩ : ∃ B, mset (backP t.deeds (setP S)) 32 = B := ⟨_, rfl⟩
  have HB := Bx.mk hB
  rw [hB]
  clear S0 h' hok hds hn6 hdok hB hg
  go_enter Tryd.func66, Tryd.ntmps66
  go_wp2_with fail
  refine (taskValid_spec _ t _ HT.out).mono ?_
  rw [HOK.out]
  rintro e w1 ⟨rfl, hb1⟩
  have HS1 := Lib.hid (HS0.out.quiet hb1)
  clear hb1
  go_wp2_with fail
  refine (l1In_yes (S : Int) 0 4294967295 _ (by omega) (by omega)).mono ?_
  rintro e w2 ⟨rfl, rfl⟩
  go_wp2
  go_loopw [6, 5] (fun i sv wr => ∃ m M : Nat, m ≤ 32 ∧ i = .int .i64 m ∧ sv = .int .i64 M ∧ Bx (M = mset (upto (backP t.deeds (setP S)) m) 32) ∧ St w wr [rBlk w.heap.size 26 #[.int .i64 t.start, .slice G gn gc, .slice G' n' c']]) (fun i _ _ => 32 - (intOf i).toNat)
  case atStart => exact ⟨0, 0, by omega, rfl, rfl, Bx.mk (mset_upto0 _ _).symm, HS1.out⟩
  case round =>
    obtain ⟨m, M, hm, rfl, rfl, HM, MM⟩ := hrel
    have HMM := Lib.hid MM
    clear MM
    by_cases hlt : m < 32
    · have HM0 : Bx (M = mset (outP t.deeds S m 0) 32) := Bx.mk (HM.out.trans (outP_zero _ _ _).symm)
      clear HM
      go_wp2
      try generalize decide ((m : Int) < 32) = dm
      go_loopw [7, 5] (fun i sv wr => ∃ k M : Nat, k ≤ n' ∧ i = .int .i64 k ∧ sv = .int .i64 M ∧ Bx (M = mset (outP t.deeds S m k) 32) ∧ St w wr [rBlk w.heap.size 26 #[.int .i64 t.start, .slice G gn gc, .slice G' n' c']]) (fun i _ _ => n' - (intOf i).toNat)
      case atStart => exact ⟨0, M, by omega, rfl, rfl, HM0, HMM.out⟩
      case round =>
        clear HM0 HMM
        obtain ⟨k, M1, hk, rfl, rfl, HM, MM⟩ := hrel
        have q0 : ∀ j, wr.cell? ⟨w.heap.size, j, none⟩ = _ := MM.cells 0 rfl
        have HMM := Lib.hid MM
        clear MM
        by_cases hkn : k < n'
        · obtain ⟨b, off, d, rfl, hb, hd, hda⟩ := HDS.out.get hkn
          obtain ⟨An, nn, cn, p0, p1, p2, p3, hneed, hnn, -⟩ := hda
          have r0 : wr.cell? ⟨b, off + k * 4, none⟩ = some (.slice An nn cn) := (bcells HMM.out.below b _ hb).trans p0
          have r1 : wr.cell? ⟨b, off + k * 4 + 1, none⟩ = some (.int .i64 d.on) := (bcells HMM.out.below b _ hb).trans p1
          have r2 : wr.cell? ⟨b, off + k * 4 + 2, none⟩ = some (.int .i64 d.off) := (bcells HMM.out.below b _ hb).trans p2
          have r3 : wr.cell? ⟨b, off + k * 4 + 3, none⟩ = some (.int .i64 d.flip) := (bcells HMM.out.below b _ hb).trans p3
          have HDK := Lib.hid (HDOK.out d (List.mem_of_getElem? hd))
          have HD0 := Lib.hid hd
          have HND := Lib.hid hneed
          obtain ⟨o, ho⟩ : ∃ o, deedDo d m = o := ⟨_, rfl⟩
          have HO := Lib.hid ho
          clear p0 p1 p2 p3 hneed hd ho
          go_wp2_with fail
          refine (l6Do_any An nn cn d m _ (HND.out.up HMM.out.below) HDK.out hlt).mono ?_
          rw [HO.out]
          rintro e w3 ⟨rfl, hb3⟩
          have HM3 := Lib.hid (HMM.out.quiet hb3)
          clear hb3 q0 r0 r1 r2 r3
          cases o with
          | none =>
            have HM2 : Bx (M1 = mset (outP t.deeds S m (k + 1)) 32) := Bx.mk (HM.out.trans (outP_no _ _ _ _ d HD0.out (hitD_none d S m HO.out)).symm)
            simp only [opt]
            go_wp2
            go_roundw
            case rel => exact ⟨k + 1, M1, by omega, by go_num, rfl, HM2, HM3.out⟩
            case measure => simp [intOf]; omega
          | some q =>
            have hq := deedDo_lt d m q HDK.out hlt HO.out
            simp only [opt]
            go_wp2_with fail
            refine (l1Bit_nat S q (by omega) _).mono ?_
            rintro e w4 ⟨rfl, rfl⟩
            by_cases hs1 : bit S q = 1
            · have hpw := wrap_pow m (by omega)
              obtain ⟨hp0, hp1⟩ := pow_int_lt hlt
              obtain ⟨M2, hM2⟩ : ∃ M2, mset (outP t.deeds S m (k + 1)) 32 = M2 := ⟨_, rfl⟩
              have HOR : Bx ((((M1 : Int).toNat ||| ((2 : Int) ^ m).toNat : Nat) : Int) = (M2 : Int)) := Bx.mk (by
                rw [← hM2]
                exact either_member hlt HM.out (outP_yes t.deeds S m k d HD0.out (by rw [hitD_some d S m q HO.out, hs1]; rfl)))
              have HM2 := Bx.mk hM2.symm
              have hM1 : M1 < 4294967296 := by rw [HM.out]; exact mset32_lt _
              rw [hs1]
              clear hs1 hM2
              go_wp2_with fail
              refine (l1Either_any (M1 : Int) (2 ^ m) (by omega) (by omega) (by omega) (by omega) _).mono ?_
              rw [HOR.out]
              rintro e w5 ⟨rfl, rfl⟩
              clear hp0 hp1 hM1 hpw
              go_wp2
              go_roundw
              case rel => exact ⟨k + 1, M2, by omega, by go_num, rfl, HM2, HM3.out⟩
              case measure => simp [intOf]; omega
            · have hs0 : bit S q = 0 := by have := bit_lt S q; omega
              have HM2 : Bx (M1 = mset (outP t.deeds S m (k + 1)) 32) := Bx.mk (HM.out.trans (outP_no _ _ _ _ d HD0.out (by rw [hitD_some d S m q HO.out, hs0]; rfl)).symm)
              rw [hs0]
              clear hs1 hs0
              go_wp2
              go_roundw
              case rel => exact ⟨k + 1, M1, by omega, by go_num, rfl, HM2, HM3.out⟩
              case measure => simp [intOf]; omega
        · have HM2 : Bx (M1 = mset (upto (backP t.deeds (setP S)) (m + 1)) 32) := Bx.mk (HM.out.trans (outP_all _ _ _ _ (by rw [HDL.out]; omega)))
          go_wp2
          go_roundw
          case rel => exact ⟨m + 1, M1, by omega, by go_num, rfl, HM2, HMM.out⟩
          case measure => simp [intOf]; omega
    · have HF : Bx (M = B) := Bx.mk (by rw [HM.out, show m = 32 by omega, mset_uptoN, HB.out])
      go_wp2
      go_ret
      exact ⟨ret_int (by rw [HF.out]), HMM.out.below⟩
end Go.Proofs.YtkimgdfcgfhibaaDoor
