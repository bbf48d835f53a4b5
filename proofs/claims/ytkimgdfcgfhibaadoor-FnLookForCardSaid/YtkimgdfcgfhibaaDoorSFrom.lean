/- Joined texts: From, OnWay, StatesNext, FromS, Pick, NumsP. -/
import Derived.Test.YtkimgdfcgfhibaaDoorSReach
import Derived.Test.YtkimgdfcgfhibaaDoorSPlanForW
import Derived.Test.YtkimgdfcgfhibaaDoorSStepsOn
import Derived.Test.YtkimgdfcgfhibaaDoorSStepsLeast
import Derived.Test.YtkimgdfcgfhibaaDoorSDraw
import Derived.Test.YtkimgdfcgfhibaaDoorSCount
/- StepsFrom and LeadsTo of the program. Printed by gen_onway.py. -/
namespace Go.Proofs.YtkimgdfcgfhibaaDoor
set_option linter.unusedVariables false
set_option linter.unusedSimpArgs false
open Go.ChangeShapes Go.WideShapes Go.ChangeAt Go.RowKit

set_option maxRecDepth 100000 in
set_option maxHeartbeats 1000000 in
theorem stepsFrom_impl (v : Value) (t : TaskD) (w : World) (h : RdT w w.heap.size v t) :
    Calls Tryd.prog 46 #[v] w (Gives w id fun v => [rInts v (stepsFrom t)]) := by
  have h' := h
  obtain ⟨G, gn, gc, G', n', c', rfl, hg, hgs, hds, hst⟩ := h
  have S0 := (St.refl w).alloc #[.int .i64 t.start, .slice G gn gc, .slice G' n' c'] 26
  have HT := Lib.hid h'
  have HG := Lib.hid hg
  have HS0 := Lib.hid S0
  have HDL := Lib.hid hds.len
  clear S0 h' hg hds
  obtain ⟨bo, hok⟩ : ∃ b, taskOk t = b := ⟨_, rfl⟩
  have HOK := Lib.hid hok
  clear hok
  cases bo with
  | false =>
    have HPN := Bx.mk (stepsFrom_no t HOK.out)
    go_enter Tryd.func46, Tryd.ntmps46
    go_wp2_with fail
    refine (taskValid_impl _ t _ (HT.out.up HS0.out.below)).mono ?_
    rw [HOK.out]
    rintro e w1 ⟨rfl, hb1⟩
    have HB := Lib.hid (HS0.out.quiet hb1).below
    clear hb1
    go_wp2
    go_ret
    exact ⟨_, rfl, by rw [HPN.out]; exact rInts_nil w _ HB.out⟩
  | true =>
    obtain ⟨hs0, hgok, hn6, hdok⟩ := taskOk_parts t HOK.out
    obtain ⟨s0, hst0⟩ := Int.eq_ofNat_of_zero_le hs0.1
    have HDOK := Lib.hid hdok
    have HGOK := Lib.hid hgok
    have hs32 : s0 < 32 := by omega
    have hpw0 := wrap_pow s0 (by omega)
    have hpwi : IntKind.i64.wrap ((2 : Int) ^ s0) = 2 ^ s0 := IntWalk.i64_in _ (by have := pow_le_int s0 31 (by omega); have : (0 : Int) < 2 ^ s0 := Int.pow_pos (by omega); omega)
    have HTR := Bx.mk (codeTruth_yes t.goal HGOK.out)
    have hn6' : n' ≤ 6 := by rw [← HDL.out]; exact hn6
    have HPY := Bx.mk (stepsFrom_yes t HOK.out s0 hst0)
    rw [hst0] at HS0 ⊢
    clear hdok hgok hs0 hn6
    go_enter Tryd.func46, Tryd.ntmps46
    go_wp2_with fail
    refine (taskValid_impl _ t _ (by rw [← hst0]; rw [← hst0] at HS0; exact HT.out.up HS0.out.below)).mono ?_
    rw [HOK.out]
    rintro e w1 ⟨rfl, hb1⟩
    have HST0 := Bx.mk hst0
    have HS1 := Lib.hid (HS0.out.quiet hb1)
    clear hb1 HS0
    clear hpw0 hpwi
    go_upto_region 3 with (fail)
    refine wp_reg (σ := Value × Value) (by kernel_rfl) (by kernel_rfl) (by kernel_rfl)
      (fun s i => match i with
        | 0 => .agg #[.int .i64 s0, .slice G gn gc, .slice G' n' c']
        | 1 => s.1
        | 2 => .pointer (some ⟨w.heap.size, 0, none⟩)
        | 3 => .int .i64 s0
        | 4 => s.2
        | 5 => s.2
        | _ => undef)
      (fun D s wx => Sn w wx fun i => match i with
        | 0 => some (rBlk w.heap.size 26 #[.int .i64 s0, .slice G gn gc, .slice G' n' c'])
        | 1 => if D 1 = true then some (rBeh s.1 t.deeds) else none
        | 2 => if D 4 = true then some (rInts s.2 (distL t.deeds (only s0))) else none
        | _ => none)
      (undef, undef) ?_ ?_ ?_
    · intro D hD
      refine ((Sn.of_st HS1.out).quiet ((Below.refl _ _).drew)).congr fun i => ?_
      match i with
      | 0 => rfl
      | 1 => exact if_neg (by rw [hD 1 (by decide)]; simp)
      | 2 => exact if_neg (by rw [hD 4 (by decide)]; simp)
      | q + 3 => rfl
    · refine StepAll.cons (fun D s wx hR (hDi : D 0 = false) hd hsh a' hs K hK => ?_) ?_
      · have e1 := hs.old 1 (u := .pointer (some ⟨w.heap.size, 0, none⟩)) (by kernel_rfl) rfl
        clear hs
        have kb : Blk wx (w.heap.size) 26 #[.int .i64 s0, .slice G gn gc, .slice G' n' c'] := hR.blk 0 rfl
        have c0 : wx.cell? ⟨w.heap.size, 0, none⟩ = some (.int .i64 s0) := kb.cell 0
        have c1 : wx.cell? ⟨w.heap.size, 1, none⟩ = some (.slice G gn gc) := kb.cell 1
        have c2 : wx.cell? ⟨w.heap.size, 2, none⟩ = some (.slice G' n' c') := kb.cell 2
        go_simp
        exact hK s wx (fun _ _ => rfl) hR
      refine StepAll.cons (fun D s wx hR (hDi : D 1 = false) hd hsh a' hs K hK => ?_) ?_
      · have e6 := hs.at_ 0 6 (u := .agg #[.int .i64 s0, .slice G gn gc, .slice G' n' c']) rfl (hd ⟨0, .data⟩ (by simp) rfl) (by kernel_rfl) (by kernel_rfl) rfl
        have g6 := getQ e6
        clear hs
        have n4 : D 4 = false := hsh.no hDi 4 rfl ⟨1, .data⟩ (by simp) rfl rfl
        have n5 : D 5 = false := hsh.no n4 5 rfl ⟨4, .data⟩ (by simp) rfl rfl
        go_simp
        refine (behindAll_any _ t _ (by have := HT.out.up hR.below; rw [HST0.out] at this; exact this) HOK.out).mono ?_
        rintro e2 w2 ⟨v2, rfl, s2⟩
        refine hK (v2, s.2) w2
          (fun j hj => by
            match j, hj with
            | 0, hj => rfl
            | 1, hj => rw [hDi] at hj; cases hj
            | 2, hj => rfl
            | 3, hj => rfl
            | 4, hj => rw [n4] at hj; cases hj
            | 5, hj => rw [n5] at hj; cases hj
            | _ + 6, hj => rfl)
          ((hR.add 1 (if_neg (by rw [hDi]; simp)) s2).congr
            (fun i => by
              match i with
              | 0 => rfl
              | 1 => rfl
              | 2 => rfl
              | q + 3 => exact (if_neg (show ¬ (q + 3 = 1) by omega)).symm))
      refine StepAll.cons (fun D s wx hR (hDi : D 2 = false) hd hsh a' hs K hK => ?_) ?_
      · have e1 := hs.old 1 (u := .pointer (some ⟨w.heap.size, 0, none⟩)) (by kernel_rfl) rfl
        clear hs
        go_simp
        exact hK s wx (fun _ _ => rfl) hR
      refine StepAll.cons (fun D s wx hR (hDi : D 3 = false) hd hsh a' hs K hK => ?_) ?_
      · have e8 := hs.at_ 2 8 (u := .pointer (some ⟨w.heap.size, 0, none⟩)) rfl (hd ⟨2, .data⟩ (by simp) rfl) (by kernel_rfl) (by kernel_rfl) rfl
        clear hs
        have kb : Blk wx (w.heap.size) 26 #[.int .i64 s0, .slice G gn gc, .slice G' n' c'] := hR.blk 0 rfl
        have c0 : wx.cell? ⟨w.heap.size, 0, none⟩ = some (.int .i64 s0) := kb.cell 0
        go_simp
        exact hK s wx (fun _ _ => rfl) hR
      refine StepAll.cons (fun D s wx hR (hDi : D 4 = false) hd hsh a' hs K hK => ?_) ?_
      · have e7 := hs.at_ 1 7 (u := s.1) rfl (hd ⟨1, .data⟩ (by simp) rfl) (by kernel_rfl) (by kernel_rfl) rfl
        have e9 := hs.at_ 3 9 (u := .int .i64 s0) rfl (hd ⟨3, .data⟩ (by simp) rfl) (by kernel_rfl) (by kernel_rfl) rfl
        have g7 := getQ e7
        have g9 := getQ e9
        clear hs
        have n5 : D 5 = false := hsh.no hDi 5 rfl ⟨4, .data⟩ (by simp) rfl rfl
        have d1 : D 1 = true := hd ⟨1, .data⟩ (by simp) rfl
        have s1 : St w wx [rBlk w.heap.size 26 #[.int .i64 s0, .slice G gn gc, .slice G' n' c'], rBeh s.1 t.deeds] := hR.to_st [0, 1] (by decide) (by simp only [List.map, d1]; rfl)
        obtain ⟨RA, RC, hrv, -⟩ := s1.rdRow 1 rfl
        rw [HDL.out] at hrv
        rw [hrv] at s1
        have hrr := s1.rdRow' (n := n') 1 (by rw [← HDL.out]; rfl)
        go_simp
        refine (stepsOn_any RA n' RC t.deeds s0 hs32 _ hrr HDL.out HDOK.out hn6').mono ?_
        rintro e2 w2 ⟨v2, rfl, s2⟩
        refine hK (s.1, v2) w2
          (fun j hj => by
            match j, hj with
            | 0, hj => rfl
            | 1, hj => rfl
            | 2, hj => rfl
            | 3, hj => rfl
            | 4, hj => rw [hDi] at hj; cases hj
            | 5, hj => rw [n5] at hj; cases hj
            | _ + 6, hj => rfl)
          ((hR.add 2 (if_neg (by rw [hDi]; simp)) s2).congr
            (fun i => by
              match i with
              | 0 => rfl
              | 1 => rfl
              | 2 => rfl
              | q + 3 => exact (if_neg (show ¬ (q + 3 = 2) by omega)).symm))
      refine StepAll.cons (fun D s wx hR (hDi : D 5 = false) hd hsh a' hs K hK => ?_) ?_
      · have e10 := hs.at_ 4 10 (u := s.2) rfl (hd ⟨4, .data⟩ (by simp) rfl) (by kernel_rfl) (by kernel_rfl) rfl
        clear hs
        go_simp
        exact hK s wx (fun _ _ => rfl) hR
      exact StepAll.nil
    · intro D s wx hR hD
      simp only [putA, Act.put, List.setIfInBounds_toArray, List.set_cons_zero, List.set_cons_succ]
      have HS2 : Hid (St w wx [rBlk w.heap.size 26 #[.int .i64 s0, .slice G gn gc, .slice G' n' c'], rBeh s.1 t.deeds, rInts s.2 (distL t.deeds (only s0))]) := Lib.hid (hR.to_st [0, 1, 2] (by decide) (by simp only [List.map, hD 1 (by decide), hD 4 (by decide)]; rfl))
      clear hR hD
      go_wp2
      go_ret
      exact ⟨_, rfl, by rw [HPY.out]; exact HS2.out.pick [2] (by decide) rfl rfl⟩
end Go.Proofs.YtkimgdfcgfhibaaDoor

/- OnWay of the program. Printed by gen_ow.py. -/
namespace Go.Proofs.YtkimgdfcgfhibaaDoor
set_option linter.unusedVariables false
set_option linter.unusedSimpArgs false
open Go.ChangeShapes Go.WideShapes Go.ChangeAt Go.RowKit

/-- the state lies on a shortest way -/
def onP (ds : List DeedD) (p : Nat → Bool) (s0 : Nat) (s : Nat) : Bool := decide (0 ≤ stpV ds p s0 ∧ 0 ≤ dstV ds (only s0) s ∧ 0 ≤ stpV ds p s ∧ dstV ds (only s0) s + stpV ds p s = stpV ds p s0)
def onWay (t : TaskD) : Int := if taskOk t then (mset (onP t.deeds (evalCode t.goal) t.start.toNat) 32 : Nat) else -1
theorem dstV_bd (ds : List DeedD) (p : Nat → Bool) (s : Nat) : -1 ≤ dstV ds p s ∧ dstV ds p s ≤ 32 := dstN_le (ds := ds) (S := p) (n := 32) (s := s)
end Go.Proofs.YtkimgdfcgfhibaaDoor

/- StatesNext of the reference, for valid arguments. -/
namespace Go.Proofs.YtkimgdfcgfhibaaDoor
set_option linter.unusedVariables false
set_option linter.unusedSimpArgs false
open Go.ChangeShapes Go.WideShapes Go.ChangeAt Go.RowKit

/-- what the states below m lead to -/
def preF (ds : List DeedD) (S m s : Nat) : Bool := (List.range m).any fun s' => setP S s' && ds.any fun d => deedDo d s' == some s
def outF (ds : List DeedD) (S m k s : Nat) : Bool := preF ds S m s || (setP S m && (ds.take k).any fun d => deedDo d m == some s)
end Go.Proofs.YtkimgdfcgfhibaaDoor

/- StepsFrom of the reference. Printed by gen_froms.py. -/
namespace Go.Proofs.YtkimgdfcgfhibaaDoor
set_option linter.unusedVariables false
set_option linter.unusedSimpArgs false
open Go.ChangeShapes Go.WideShapes Go.ChangeAt Go.RowKit

/-- what is met in the round m -/
def newF (ds : List DeedD) (p : Nat → Bool) : Nat → Nat → Bool
  | 0, s => p s
  | m + 1, s => freshF ds p m s
/-- what stands ahead of the round m -/
def prvF (ds : List DeedD) (p : Nat → Bool) : Nat → Nat → Int
  | 0, _ => -1
  | m + 1, s => dstN ds p m s
end Go.Proofs.YtkimgdfcgfhibaaDoor

/- A pick within a region that draws. -/
namespace Go.Proofs.YtkimgdfcgfhibaaDoor
set_option linter.unusedVariables false
set_option linter.unusedSimpArgs false
open Go.ChangeShapes Go.WideShapes Go.ChangeAt Go.RowKit

section
variable {w W W' : World} {Rs L : List HRes} {M : Nat → Option HRes}
theorem Sn.pick (h : Sn w W M) (k : Nat) {g hi : Nat} (hk : M k = some (rRd w g hi)) (hh : hi ≤ 549755813888) (m : Int) :
    Calls Tryd.prog 59 #[.pointer (some ⟨g, 0, none⟩), .int .i64 m] W fun e w' => ∃ x, e = .returned (.int .i64 x) ∧ InPick m x ∧ Sn w w' (fun i => if i = k then some (rRd w g (hi + 1)) else M i) := by
  obtain ⟨F, ⟨hF, p, A, n, c, xs, h1, h2, h3, h4⟩, hlo⟩ := h.get k hk
  have hg : w.heap.size ≤ g := hlo g (by rw [hF]; simp)
  have hR : Rdr W w.heap.size g p := ⟨hg, by omega, A, n, c, xs, h2, h3.below h.below, h4⟩
  refine (pick_any g w.heap.size p m W hR (by omega)).mono fun e w' ⟨⟨x, he, hx⟩, hgr, hr⟩ => ⟨x, he, hx, ?_⟩
  obtain ⟨-, -, A', n', c', ys, k1, k2, k3⟩ := hr
  have hb : Below w.heap.size W w' := (Below.refl _ _).grown hgr h.below.size (fun k hk => by cases hk; exact hg)
  have hrd : RdI .u8 w w.heap.size A' n' c' ys := ⟨k2.len, k2.cap, k2.capMax, k2.wf, fun hp => by
    obtain ⟨b, off, e, hbb, hc⟩ := k2.at_ hp
    exact ⟨b, off, e, hbb, fun i x hx => (bcells (h.below.trans hb) b _ hbb).symm.trans (hc i x hx)⟩⟩
  exact h.mod k hk fun F ⟨e, _⟩ _ => ⟨F, ⟨e, p + 1, A', n', c', ys, by omega, k1, hrd, k3⟩, fun b hb => .inl hb, by rw [e]; exact Only.of_grown hgr⟩
end
end Go.Proofs.YtkimgdfcgfhibaaDoor

/- Plain laws of numbers that prove how many deeds are needed: NumbersOk, NumbersFor, MustLook; no program in sight. -/
namespace Go.Proofs.YtkimgdfcgfhibaaDoor
set_option linter.unusedVariables false
set_option linter.unusedSimpArgs false

def xv (xs : List Int) (s : Nat) : Int := xs.getD s 0
def numRow (t : TaskD) (xs : List Int) (s : Nat) : Bool :=
  decide (0 ≤ xv xs s ∧ xv xs s ≤ 40) && (!(evalCode t.goal s) || xv xs s == 0) && t.deeds.all fun d => (deedDo d s).all fun s' => decide (xv xs s - 1 ≤ xv xs s')
def numsOk (t : TaskD) (xs : List Int) : Bool := taskOk t && decide (xs.length = 32) && (List.range 32).all (numRow t xs)
structure NumsOk (t : TaskD) (xs : List Int) : Prop where
  ok : taskOk t = true
  len : xs.length = 32
  bd : ∀ s, s < 32 → 0 ≤ xv xs s ∧ xv xs s ≤ 40
  goal : ∀ s, s < 32 → evalCode t.goal s = true → xv xs s = 0
  step : ∀ s, s < 32 → ∀ d ∈ t.deeds, ∀ s', deedDo d s = some s' → xv xs s - 1 ≤ xv xs s'
theorem numRow_iff {t : TaskD} {xs : List Int} {s : Nat} : numRow t xs s = true ↔ (0 ≤ xv xs s ∧ xv xs s ≤ 40) ∧ (evalCode t.goal s = true → xv xs s = 0) ∧ ∀ d ∈ t.deeds, ∀ s', deedDo d s = some s' → xv xs s - 1 ≤ xv xs s' := by
  unfold numRow
  simp only [Bool.and_eq_true, decide_eq_true_eq, List.all_eq_true, Bool.or_eq_true, Bool.not_eq_true', beq_iff_eq, and_assoc]
  constructor
  · rintro ⟨h1, h2, h3, h4⟩
    refine ⟨h1, h2, fun hg => ?_, fun d hd s' e => ?_⟩
    · rcases h3 with h3 | h3
      · rw [h3] at hg; cases hg
      · exact h3
    · have := h4 d hd
      rw [e] at this
      simpa using this
  · rintro ⟨h1, h2, h3, h4⟩
    refine ⟨h1, h2, ?_, fun d hd => ?_⟩
    · cases hg : evalCode t.goal s with
      | false => exact .inl rfl
      | true => exact .inr (h3 hg)
    · cases e : deedDo d s with
      | none => rfl
      | some s' => simpa using h4 d hd s' e
theorem numsOk_iff {t : TaskD} {xs : List Int} : numsOk t xs = true ↔ NumsOk t xs := by
  unfold numsOk
  simp only [Bool.and_eq_true, decide_eq_true_eq, List.all_eq_true, List.mem_range, numRow_iff, and_assoc]
  constructor
  · rintro ⟨h1, h2, h3⟩
    exact ⟨h1, h2, fun s hs => ⟨(h3 s hs).1, (h3 s hs).2.1⟩, fun s hs => (h3 s hs).2.2.1, fun s hs => (h3 s hs).2.2.2⟩
  · rintro ⟨h1, h2, h3, h4, h5⟩
    exact ⟨h1, h2, fun s hs => ⟨(h3 s hs).1, (h3 s hs).2, h4 s hs, h5 s hs⟩⟩
/-- -1 turned to the greatest number -/
def up40 (xs : List Int) : List Int := xs.map fun x => if x < 0 then 40 else x
def numsFor (t : TaskD) : List Int := if taskOk t then up40 ((List.range 32).map (stpV t.deeds (evalCode t.goal))) else []
/-- the number of the beginning is at most the deeds to a state and its number -/
theorem NumsOk.on {t : TaskD} {xs : List Int} (h : NumsOk t xs) {s0 : Nat} {k : Nat} : ∀ s, fwd t.deeds (only s0) k s = true → xv xs s0 ≤ k + xv xs s := by
  induction k with
  | zero =>
    intro s hs
    have : s0 = s := by simpa [fwd, only] using hs
    subst this; omega
  | succ k ih =>
    intro s hs
    simp only [fwd, Bool.or_eq_true] at hs
    rcases hs with hs | hs
    · have := ih s hs; omega
    · obtain ⟨s', hs', h1, d, hm, e⟩ := fwdP_iff.1 hs
      have h2 := ih s' h1
      have h3 := h.step s' hs' d hm s e
      omega
/-- one must look at s -/
def mustP (t : TaskD) (xs : List Int) (s : Nat) : Bool :=
  decide (0 ≤ dstV t.deeds (only t.start.toNat) s) && (decide (stpV t.deeds (evalCode t.goal) t.start.toNat < 0) && decide (xv xs s < 40) || decide (dstV t.deeds (only t.start.toNat) s + xv xs s < stpV t.deeds (evalCode t.goal) t.start.toNat))
def mustN (t : TaskD) (xs : List Int) : Nat := cnt (mustP t xs) 32
def mustLook (t : TaskD) (xs : List Int) : Int := if numsOk t xs then (mustN t xs : Int) else -1
theorem cnt_none {p : Nat → Bool} {n : Nat} (h : ∀ k, k < n → p k = false) : cnt p n = 0 := by
  rcases Nat.eq_zero_or_pos (cnt p n) with e | e
  · exact e
  · obtain ⟨k, hk, hp⟩ := cnt_pos.1 e
    rw [h k hk] at hp; cases hp
theorem cnt_sub {p q : Nat → Bool} {n : Nat} (h : ∀ k, k < n → p k = true → q k = true) : cnt p n ≤ cnt q n := by
  unfold cnt
  induction n with
  | zero => simp
  | succ n ih =>
    rw [List.range_succ, List.countP_append, List.countP_append]
    have h1 := ih fun k hk => h k (by omega)
    have h2 := h n (by omega)
    simp only [List.countP_singleton]
    cases hp : p n with
    | false => simp; omega
    | true => rw [h2 hp]; omega
end Go.Proofs.YtkimgdfcgfhibaaDoor
