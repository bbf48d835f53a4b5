/- Joined texts: OnWayS, TurnP. -/
import Derived.Test.YtdbgoekemffimaaJFnOnWayFromS
import Derived.Test.YtdbgoekemffimaaJFnOnWayOnWay
import Derived.Test.YtdbgoekemffimaaJFnOnWayReach
import Derived.Test.YtdbgoekemffimaaJFnOnWay5

/- OnWay of the reference. -/
namespace Go.Proofs.Ytdbgoekemffimaa
set_option linter.unusedVariables false
open Go.ChangeShapes Go.WideShapes Go.ChangeAt Go.RowKit
set_option maxRecDepth 100000 in
set_option maxHeartbeats 1000000 in
theorem onWay_spec (v : Value) (t : TaskD) (w : World) (h : RdT w w.heap.size v t) :
    Calls Try.prog 17 #[v] w fun e w' => e = .returned (.int .i64 (onWay t)) ∧ Below w.heap.size w w' := by
  have h' := h
  obtain ⟨G, gn, gc, G', n', c', rfl, hg, hgs, hds, hst⟩ := h
  have S0 := (St.refl w).alloc #[.int .i64 t.start, .slice G gn gc, .slice G' n' c'] 26
  have HT := Lib.hid h'
  have HS0 := Lib.hid S0
  clear S0 h' hg hds
  obtain ⟨bo, hok⟩ : ∃ b, taskOk t = b := ⟨_, rfl⟩
  have HOK := Lib.hid hok
  clear hok
  cases bo with
  | false =>
    have HPN := Bx.mk (onWay_no t HOK.out)
    go_enter Try.func17, Try.ntmps17
    go_wp2_with fail
    refine (taskValid_spec _ t _ (HT.out.up HS0.out.below)).mono ?_
    rw [HOK.out]
    rintro e w1 ⟨rfl, hb1⟩
    have HB := Lib.hid (HS0.out.quiet hb1).below
    clear hb1
    go_wp2
    go_ret
    exact ⟨ret_int HPN.out.symm, HB.out⟩
  | true =>
    obtain ⟨hs0, hgok, hn6, hdok⟩ := taskOk_parts t HOK.out
    obtain ⟨s0, hst0⟩ := Int.eq_ofNat_of_zero_le hs0.1
    have hs32 : s0 < 32 := by omega
    have HPY := Bx.mk (onWay_yes t HOK.out s0 hst0)
    have HFY := Bx.mk (stepsFrom_yes t HOK.out s0 hst0)
    have HLY := Bx.mk (stepsLeastR_yes t HOK.out)
    rw [hst0] at HS0 ⊢
    clear hdok hgok hs0 hn6
    go_enter Try.func17, Try.ntmps17
    go_wp2_with fail
    refine (taskValid_spec _ t _ (by rw [← hst0]; rw [← hst0] at HS0; exact HT.out.up HS0.out.below)).mono ?_
    rw [HOK.out]
    rintro e w1 ⟨rfl, hb1⟩
    have HST0 := Bx.mk hst0
    have HS1 := Lib.hid (HS0.out.quiet hb1)
    have q1 : ∀ j, w1.cell? ⟨w.heap.size, j, none⟩ = _ := HS1.out.cells 0 rfl
    clear hb1 HS0
    go_wp2_with fail
    refine (stepsFrom_spec _ t _ (by have := HT.out.up HS1.out.below; rw [HST0.out] at this; exact this)).mono ?_
    rw [HFY.out]
    rintro e w2 ⟨fv, rfl, s2⟩
    obtain ⟨gf, cf, hf⟩ := s2.formI 0 rfl (distL_len _ _) (by omega)
    simp only [id_eq] at hf ⊢
    subst hf
    have HS2 := Lib.hid (HS1.out.call s2)
    clear q1 s2 HS1
    have q2 : ∀ j, w2.cell? ⟨w.heap.size, j, none⟩ = _ := HS2.out.cells 0 rfl
    go_wp2_with fail
    refine (stepsLeast_spec _ t _ (by have := HT.out.up HS2.out.below; rw [HST0.out] at this; exact this)).mono ?_
    rw [HLY.out]
    rintro e w3 ⟨sv, rfl, s3⟩
    obtain ⟨gs, cs, hs⟩ := s3.formI 0 rfl (stepsL_len _ _) (by omega)
    simp only [id_eq] at hs ⊢
    subst hs
    have HS3 := Lib.hid (HS2.out.call s3)
    clear q2 s3 HS2
    obtain ⟨v, hv⟩ : ∃ v, stpV t.deeds (evalCode t.goal) s0 = v := ⟨_, rfl⟩
    have HV := Bx.mk hv
    have hvb : -1 ≤ v ∧ v ≤ 32 := by rw [← hv]; exact stpV_bd _ _ s0
    have hsI : (s0 : Int) < 32 := by omega
    clear hv
    go_wp2
    go_loopw [6, 3] (fun iv sv wr => ∃ k M : Nat, k ≤ 32 ∧ iv = .int .i64 k ∧ sv = .int .i64 M ∧ Bx (M < 2 ^ k) ∧ Bx (M = mset (upto (onP t.deeds (evalCode t.goal) s0) k) 32) ∧ St w wr [rBlk w.heap.size 26 #[.int .i64 s0, .slice G gn gc, .slice G' n' c'], rInts (.slice (some ⟨gf, 0, none⟩) 32 cf) (distL t.deeds (only s0)), rInts (.slice (some ⟨gs, 0, none⟩) 32 cs) (stepsL t.deeds (evalCode t.goal))]) (fun iv _ _ => 32 - (intOf iv).toNat)
    case atStart => exact ⟨0, 0, by omega, rfl, rfl, Bx.mk (by omega), Bx.mk (mset_upto0 _ _).symm, HS3.out⟩
    case round =>
      clear HS3
      obtain ⟨k, M, hk, rfl, rfl, HMK, HM, S⟩ := hrel
      have HS := Lib.hid S
      clear S
      by_cases hlt : k < 32
      · obtain ⟨f, hf⟩ : ∃ f, dstV t.deeds (only s0) k = f := ⟨_, rfl⟩
        obtain ⟨g, hg⟩ : ∃ g, stpV t.deeds (evalCode t.goal) k = g := ⟨_, rfl⟩
        have hfb : -1 ≤ f ∧ f ≤ 32 := by rw [← hf]; exact dstV_bd _ _ k
        have hgb : -1 ≤ g ∧ g ≤ 32 := by rw [← hg]; exact stpV_bd _ _ k
        have q1 : ∀ j, wr.cell? ⟨w.heap.size, j, none⟩ = _ := HS.out.cells 0 rfl
        have cf1 : wr.cell? ⟨gf, k, none⟩ = some (.int .i64 f) := (HS.out.cellI 1 rfl (distL_len _ _) k _ (by rw [← hf]; exact distL_at _ _ k hlt)).1
        have cg1 : wr.cell? ⟨gs, k, none⟩ = some (.int .i64 g) := (HS.out.cellI 2 rfl (stepsL_len _ _) k _ (by rw [← hg]; exact stepsL_at _ _ k hlt)).1
        have cs1 : wr.cell? ⟨gs, s0, none⟩ = some (.int .i64 v) := (HS.out.cellI 2 rfl (stepsL_len _ _) s0 _ (by rw [← HV.out]; exact stepsL_at _ _ s0 hs32)).1
        have ct1 : wr.cell? ⟨w.heap.size, 0, none⟩ = some (.int .i64 s0) := q1 0
        have hkI : (k : Int) < 32 := by omega
        have HP : Bx (onP t.deeds (evalCode t.goal) s0 k = decide (0 ≤ v ∧ 0 ≤ f ∧ 0 ≤ g ∧ f + g = v)) := Bx.mk (by unfold onP; rw [HV.out, hf, hg])
        have hm32 : M < 4294967296 := by rw [HM.out]; exact mset32_lt _
        clear hf hg
        have hsk : IntKind.i64.wrap (f + g) = f + g := IntWalk.i64_in _ (by omega)
        have HL2 : Bx (M < 2 ^ (k + 1)) := Bx.mk (by rw [Nat.pow_succ]; have := HMK.out; omega)
        have NO : ¬ (0 ≤ v ∧ 0 ≤ f ∧ 0 ≤ g ∧ f + g = v) → Bx (M = mset (upto (onP t.deeds (evalCode t.goal) s0) (k + 1)) 32) := fun h => Bx.mk (by rw [HM.out, upto_same _ _ (by rw [HP.out, decide_eq_false h])])
        by_cases h2 : 0 ≤ f
        case neg =>
          have HM2 := NO (fun h => h2 h.2.1)
          have hd2 : decide ((0 : Int) ≤ f) = false := decide_eq_false h2
          clear h2 NO
          go_upto_region 9 with (fail)
          go_quiet (fail)
          have HS3 := Lib.hid (HS.out.drewN nq)
          go_wp2
          go_roundw
          case rel => exact ⟨k + 1, M, by omega, by go_num, rfl, HL2, HM2, HS3.out⟩
          case measure => simp [intOf]; omega
        by_cases h3 : 0 ≤ g
        case neg =>
          have HM2 := NO (fun h => h3 h.2.2.1)
          have hd3 : decide ((0 : Int) ≤ g) = false := decide_eq_false h3
          clear h3 NO
          go_upto_region 9 with (fail)
          go_quiet (fail)
          have HS3 := Lib.hid (HS.out.drewN nq)
          go_wp2
          go_roundw
          case rel => exact ⟨k + 1, M, by omega, by go_num, rfl, HL2, HM2, HS3.out⟩
          case measure => simp [intOf]; omega
        by_cases h4 : f + g = v
        case neg =>
          have HM2 := NO (fun h => h4 h.2.2.2)
          have hd4 : (f + g == v) = false := by simpa using h4
          clear h4 NO
          go_upto_region 9 with (fail)
          go_quiet (fail)
          have HS3 := Lib.hid (HS.out.drewN nq)
          go_wp2
          go_roundw
          case rel => exact ⟨k + 1, M, by omega, by go_num, rfl, HL2, HM2, HS3.out⟩
          case measure => simp [intOf]; omega
        have hd4 : (f + g == v) = true := by simpa using h4
        have hpw := wrap_pow k (by omega)
        have hpl := pow32_lt hlt
        obtain ⟨M2, hM2⟩ : ∃ M2, M + 2 ^ k = M2 := ⟨_, rfl⟩
        have hadd : (M : Int) + 2 ^ k = (M2 : Int) := by rw [← hM2]; push_cast; rfl
        have HM2 : Bx (M2 = mset (upto (onP t.deeds (evalCode t.goal) s0) (k + 1)) 32) := Bx.mk (by rw [← hM2, mset_upto_add _ 32 k hlt (by rw [HP.out, decide_eq_true ⟨by omega, h2, h3, h4⟩]), ← HM.out])
        have HL3 : Bx (M2 < 2 ^ (k + 1)) := Bx.mk (by rw [← hM2, Nat.pow_succ]; have := HMK.out; omega)
        have hl2 : M2 < 4294967296 := by rw [HM2.out]; exact mset32_lt _
        clear NO h4 hM2
        go_upto_region 9 with (fail)
        go_quiet (fail)
        have HS3 := Lib.hid (HS.out.drewN nq)
        go_wp2
        go_roundw
        case rel => exact ⟨k + 1, M2, by omega, by go_num, by first | rfl | go_num | (congr 1; rw [hadd]), HL3, HM2, HS3.out⟩
        case measure => simp [intOf]; omega
      · obtain rfl : k = 32 := by omega
        have HF : Bx (onWay t = (M : Nat)) := Bx.mk (by rw [HPY.out, HM.out, mset_uptoN])
        go_wp2
        go_ret
        exact ⟨ret_int HF.out.symm, HS.out.below⟩
end Go.Proofs.Ytdbgoekemffimaa

/- Plain law: a task with some facts turned round has the same plans, and what is reached are the same states, turned; no program in sight. -/
namespace Go.Proofs.Ytdbgoekemffimaa
set_option linter.unusedVariables false

theorem evalRun_app (s : Nat) (st : List Bool) (xs ys : List Int) : evalRun s st (xs ++ ys) = evalRun s (evalRun s st xs) ys := by simp [evalRun, List.foldl_append]
theorem bitB (s k : Nat) : (bit s k == 1) = s.testBit k := (testBit_bit s k).symm
theorem evalStep_fact (s : Nat) (st : List Bool) {x : Int} (h : x < 5) : evalStep s st x = s.testBit x.toNat :: st := by
  unfold evalStep
  rw [if_neg (by omega), if_neg (by omega), if_neg (by omega), if_neg (by omega), if_neg (by omega), bitB]
theorem evalStep_same (s s' : Nat) (st : List Bool) {x : Int} (h : 5 ≤ x) (h' : x ≤ 9) : evalStep s st x = evalStep s' st x := by
  unfold evalStep
  obtain rfl | rfl | rfl | rfl | rfl : x = 5 ∨ x = 6 ∨ x = 7 ∨ x = 8 ∨ x = 9 := by omega
  all_goals simp
theorem eval_turn (f s : Nat) : ∀ (xs : List Int) (st : List Bool), (∀ x ∈ xs, 0 ≤ x ∧ x ≤ 9) → evalRun (s ^^^ f) st (turnI f xs) = evalRun s st xs := by
  intro xs
  induction xs with
  | nil => intro st _; rfl
  | cons x xs ih =>
    intro st hx
    obtain ⟨h0, h9⟩ := hx x (List.mem_cons_self ..)
    have hr := fun st => ih st fun y hy => hx y (List.mem_cons_of_mem _ hy)
    rw [show turnI f (x :: xs) = turnOne f x ++ turnI f xs by simp [turnI], evalRun_app]
    have key : evalRun (s ^^^ f) st (turnOne f x) = evalStep s st x := by
      unfold turnOne
      by_cases h5 : x < 5
      · rw [evalStep_fact s st h5]
        by_cases hb : bit f x.toNat = 1
        · rw [if_pos ⟨h5, hb⟩]
          simp only [evalRun, List.foldl_cons, List.foldl_nil]
          rw [evalStep_fact _ st h5]
          have hf : f.testBit x.toNat = true := by rw [testBit_bit, hb]; rfl
          simp [evalStep, Nat.testBit_xor, hf]
        · rw [if_neg (fun h => hb h.2)]
          simp only [evalRun, List.foldl_cons, List.foldl_nil]
          rw [evalStep_fact _ st h5]
          have hf : f.testBit x.toNat = false := by rw [testBit_bit]; simpa using hb
          simp [Nat.testBit_xor, hf]
      · rw [if_neg (fun h => h5 h.1)]
        simp only [evalRun, List.foldl_cons, List.foldl_nil]
        exact evalStep_same _ _ st (by omega) h9
    rw [key, hr]
    rfl
theorem evalCode_turn (f s : Nat) (xs : List Int) (h : codeOk xs = true) : evalCode (turnI f xs) (s ^^^ f) = evalCode xs s := by
  unfold evalCode; rw [eval_turn f s xs [] (codeOk_in xs h)]
theorem andn_bit : ∀ x y : Fin 32, ∀ k : Fin 5, (x.val - (x.val &&& y.val)).testBit k.val = (x.val.testBit k.val && !y.val.testBit k.val) := by decide +kernel
theorem turnOn_bit : ∀ f a b : Fin 32, ∀ k : Fin 5, (turnOn f.val a.val b.val).testBit k.val = ((a.val.testBit k.val && !f.val.testBit k.val) || (b.val.testBit k.val && f.val.testBit k.val)) := by decide +kernel
theorem behind_bit (d : DeedD) (s k : Nat) (hs : s < 32) (h : deedOk d = true) (hk : k < 5) : (behind d s).testBit k = (((s.testBit k || d.on.toNat.testBit k) && !d.off.toNat.testBit k) ^^ d.flip.toNat.testBit k) := by
  obtain ⟨-, h1, h2, h3, -⟩ := deedOk_parts d h
  unfold behind
  have := andn_bit ⟨s ||| d.on.toNat, or_lt32 hs (by omega)⟩ ⟨d.off.toNat, by omega⟩ ⟨k, hk⟩
  simp only at this
  rw [Nat.testBit_xor, this, Nat.testBit_or]
theorem disj_bit {a b k : Nat} (h : a &&& b = 0) : (a.testBit k && b.testBit k) = false := by rw [← Nat.testBit_and, h, Nat.zero_testBit]
theorem ext5 {a b : Nat} (ha : a < 32) (hb : b < 32) (h : ∀ k, k < 5 → a.testBit k = b.testBit k) : a = b := by
  refine Nat.eq_of_testBit_eq fun k => ?_
  by_cases hk : k < 5
  · exact h k hk
  · rw [testBit_high (n := 5) ha hk, testBit_high (n := 5) hb hk]
theorem behind_turn (f : Nat) (d : DeedD) (s : Nat) (hf : f < 32) (hs : s < 32) (h : deedOk d = true) (h' : deedOk (turnD f d) = true) : behind (turnD f d) (s ^^^ f) = behind d s ^^^ f := by
  have hx : s ^^^ f < 32 := xor32 _ _ hs hf
  refine ext5 (behind_lt _ _ h' hx) (xor32 _ _ (behind_lt _ _ h hs) hf) fun k hk => ?_
  obtain ⟨-, h1, h2, h3, e1, e2, e3⟩ := deedOk_parts d h
  have d1 := disj_bit (k := k) e1
  have d2 := disj_bit (k := k) e2
  have d3 := disj_bit (k := k) e3
  have t1 := turnOn_bit ⟨f, hf⟩ ⟨d.on.toNat, by omega⟩ ⟨d.off.toNat, by omega⟩ ⟨k, hk⟩
  have t2 := turnOn_bit ⟨f, hf⟩ ⟨d.off.toNat, by omega⟩ ⟨d.on.toNat, by omega⟩ ⟨k, hk⟩
  simp only at t1 t2
  rw [behind_bit _ _ k hx h' hk, Nat.testBit_xor, Nat.testBit_xor, behind_bit d s k hs h hk]
  show ((((s.testBit k ^^ f.testBit k) || (((turnOn f d.on.toNat d.off.toNat : Nat) : Int).toNat).testBit k) && !(((turnOn f d.off.toNat d.on.toNat : Nat) : Int).toNat).testBit k) ^^ d.flip.toNat.testBit k) = _
  rw [Int.toNat_natCast, Int.toNat_natCast, t1, t2]
  revert d1 d2 d3
  cases s.testBit k <;> cases f.testBit k <;> cases d.on.toNat.testBit k <;> cases d.off.toNat.testBit k <;> cases d.flip.toNat.testBit k <;> simp
theorem deedDo_turn (f : Nat) (d : DeedD) (s : Nat) (hf : f < 32) (hs : s < 32) (h : deedOk d = true) (h' : deedOk (turnD f d) = true) : deedDo (turnD f d) (s ^^^ f) = (deedDo d s).map (· ^^^ f) := by
  unfold deedDo
  have : evalCode (turnD f d).need (s ^^^ f) = evalCode d.need s := evalCode_turn f s d.need (deedOk_parts d h).1
  rw [this]
  split
  · rw [behind_turn f d s hf hs h h']; rfl
  · rfl
theorem turnOk_parts {t : TaskD} {f : Int} (h : turnOk t f = true) : taskOk t = true ∧ (0 ≤ f ∧ f < 32) ∧ taskOk (turnT f.toNat t) = true := by
  unfold turnOk at h
  simp only [Bool.and_eq_true] at h
  exact ⟨h.1.1, (stIn_iff f).1 h.1.2, h.2⟩
theorem iso_turn {t : TaskD} {f : Nat} (hf : f < 32) (h : taskOk t = true) (h' : taskOk (turnT f t) = true) : Iso t.deeds (turnD f) (· ^^^ f) :=
  ⟨fun s hs => xor32 _ _ hs hf, fun d hd s hs => deedDo_turn f d s hf hs ((taskOk_parts t h).2.2.2 d hd) ((taskOk_parts _ h').2.2.2 _ (List.mem_map.2 ⟨d, hd, rfl⟩))⟩
theorem turn_start {t : TaskD} {f : Nat} : (turnT f t).start.toNat = t.start.toNat ^^^ f := by simp [turnT]
theorem planFor_turn {t : TaskD} {f : Nat} (hf : f < 32) (h : taskOk t = true) (h' : taskOk (turnT f t) = true) : planFor (turnT f t) = planFor t := by
  have hp := taskOk_parts t h
  unfold planFor
  rw [if_pos h, if_pos h', turn_start]
  exact (iso_turn hf h h').planOf hp.2.2.2 (fun s hs => evalCode_turn f s t.goal hp.2.1) (by omega)
theorem fwd_turn {t : TaskD} {f : Nat} (hf : f < 32) (h : taskOk t = true) (h' : taskOk (turnT f t) = true) {s : Nat} (hs : s < 32) : fwd (turnT f t).deeds (only (turnT f t).start.toNat) 32 (s ^^^ f) = fwd t.deeds (only t.start.toNat) 32 s := by
  have hp := taskOk_parts t h
  rw [turn_start]
  refine (iso_turn hf h h').fwd hp.2.2.2 (fun s t hs ht e => ?_) (fun s hs => ⟨s ^^^ f, xor32 _ _ hs hf, ?_⟩) (fun s hs => ?_) 32 s hs
  · have := congrArg (· ^^^ f) e
    simpa [Nat.xor_assoc] using this
  · simp [Nat.xor_assoc]
  · unfold only
    rw [Bool.eq_iff_iff]
    simp only [decide_eq_true_eq]
    constructor
    · intro e
      have := congrArg (· ^^^ f) e
      simpa [Nat.xor_assoc] using this
    · intro e; rw [e]
end Go.Proofs.Ytdbgoekemffimaa
