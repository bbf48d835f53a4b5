/- Joined texts: Rest, ShortP, Acts. -/
import Derived.Test.YtkebgldeahklmaaSPlanForS
import Derived.Test.YtkebgldeahklmaaSBValid
import Derived.Test.YtkebgldeahklmaaSMore
/- taskFrom and RestFor, of the program and of the reference. -/
namespace Go.Proofs.Ytkebgldeahklmaa
set_option linter.unusedVariables false
set_option linter.unusedSimpArgs false
open Go.ChangeShapes Go.WideShapes Go.ChangeAt Go.RowKit

/-- the task of a book that begins with its state -/
def taskFrom (b : BookD) : TaskD := ⟨b.state, b.order.goal, b.order.deeds⟩
def restFor (b : BookD) : Option (List Int) := if bookOk b then planFor (taskFrom b) else none
theorem restFor_no (b : BookD) (h : bookOk b = false) : restFor b = none := if_neg (by rw [h]; simp)
theorem restFor_yes (b : BookD) (h : bookOk b = true) : restFor b = planFor (taskFrom b) := if_pos h
theorem RdBM.from_ {w : World} {B : Nat} {s st : Int} {x y z : Value} {b : BookD} (h : RdBM 1048576 w B (.agg #[.int .i64 s, x, y, z, .int .i64 st]) b) (hst : st = b.state) : RdTM 1048576 w B (.agg #[.int .i64 st, x, y]) (taskFrom b) := by
  obtain ⟨A, n, c, A', n', c', e, h1, h2, h3, h4⟩ := h.order
  simp only [Value.agg.injEq, Array.mk.injEq, List.cons.injEq, and_true, true_and] at e
  obtain ⟨-, rfl, rfl⟩ := e
  obtain ⟨A2, n2, c2, A3, n3, c3, A4, n4, c4, e⟩ := h.form
  simp only [Value.agg.injEq, Array.mk.injEq, List.cons.injEq, and_true, true_and] at e
  obtain ⟨-, -, -, rfl, -⟩ := e
  subst hst
  exact ⟨A, n, c, A', n', c', rfl, h1, h2, h3, h.done.2.2.1⟩
set_option maxRecDepth 100000 in
theorem taskFrom_any (s st : Int) (A : Option Addr) (n c : Nat) (A' : Option Addr) (n' c' : Nat) (A2 : Option Addr) (n2 c2 : Nat) (w : World) :
    Calls Try.prog 50 #[.agg #[.int .i64 s, .slice A n c, .slice A' n' c', .slice A2 n2 c2, .int .i64 st]] w fun e w' => e = .returned (.agg #[.int .i64 st, .slice A n c, .slice A' n' c']) ∧ Below w.heap.size w w' := by
  go_enter Try.func50, Try.ntmps50
  go_wp2
  refine bodyPost_ret (v := .agg #[.int .i64 st, .slice A n c, .slice A' n' c']) (by simp [results, Try.results50, go_sem]) rfl ⟨rfl, ?_⟩
  repeat' (first | with_reducible exact Below.refl _ _ | with_reducible refine Below.setCell ?_ ?_ _ | with_reducible refine Below.alloc ?_ ?_ _)
  all_goals (simp; try omega)
set_option maxRecDepth 100000 in
theorem restFor_impl (v : Value) (b : BookD) (w : World) (h : RdB w w.heap.size v b) :
    Calls Try.prog 13 #[v] w (Gives w (fun v => .tuple #[v, .bool (restFor b).isSome]) fun v => [rInts v ((restFor b).getD [])]) := by
  have h' := h
  obtain ⟨A, n, c, A', n', c', A2, n2, c2, hv⟩ := h.form
  subst hv
  have S0 := (St.refl w).alloc #[.int .i64 b.order.start, .slice A n c, .slice A' n' c', .slice A2 n2 c2, .int .i64 b.state] 28
  have HB := Lib.hid h'
  have HS0 := Lib.hid S0
  clear S0 h h'
  obtain ⟨bo, hok⟩ : ∃ x, bookOk b = x := ⟨_, rfl⟩
  have HOK := Lib.hid hok
  clear hok
  cases bo with
  | false =>
    have HN := Bx.mk (restFor_no b HOK.out)
    go_enter Try.func13, Try.ntmps13
    go_wp2_with fail
    refine (bookValid_impl _ b _ (HB.out.up HS0.out.below)).mono ?_
    rw [HOK.out]
    rintro e w1 ⟨rfl, hb1⟩
    have HBE := Lib.hid (HS0.out.quiet hb1).below
    clear hb1
    go_wp2
    refine bodyPost_ret (v := .tuple #[.slice none 0 0, .bool false]) (by simp [results, Try.results13, go_sem]) rfl ⟨.slice none 0 0, by rw [HN.out]; rfl, ?_⟩
    rw [HN.out]
    exact rInts_nil w _ HBE.out
  | true =>
    have HY := Bx.mk (restFor_yes b HOK.out)
    go_enter Try.func13, Try.ntmps13
    go_wp2_with fail
    refine (bookValid_impl _ b _ (HB.out.up HS0.out.below)).mono ?_
    rw [HOK.out]
    rintro e w1 ⟨rfl, hb1⟩
    have HS1 := Lib.hid (HS0.out.quiet hb1)
    have q1 : ∀ j, w1.cell? ⟨w.heap.size, j, none⟩ = _ := HS1.out.cells 0 rfl
    clear hb1
    go_wp2_with fail
    refine (taskFrom_any b.order.start b.state A n c A' n' c' A2 n2 c2 _).mono ?_
    rintro e w2 ⟨rfl, hb2⟩
    have HS2 := Lib.hid (HS1.out.quiet hb2)
    clear hb2 q1
    go_wp2_with fail
    refine (planFor_impl _ (taskFrom b) _ ((HB.out.from_ rfl).up HS2.out.below)).mono ?_
    rintro e w3 ⟨v3, rfl, s3⟩
    have HS3 := Lib.hid (HS2.out.call s3)
    clear s3
    go_wp2
    refine bodyPost_ret (v := .tuple #[v3, .bool (planFor (taskFrom b)).isSome]) (by simp [results, Try.results13, go_sem]) rfl ⟨v3, by rw [HY.out], ?_⟩
    rw [HY.out]
    exact HS3.out.pick [1] (by decide) rfl rfl
set_option maxRecDepth 100000 in
theorem restFor_spec (v : Value) (b : BookD) (w : World) (h : RdB w w.heap.size v b) :
    Calls Try.prog 16 #[v] w (Gives w (fun v => .tuple #[v, .bool (restFor b).isSome]) fun v => [rInts v ((restFor b).getD [])]) := by
  have h' := h
  obtain ⟨A, n, c, A', n', c', A2, n2, c2, hv⟩ := h.form
  subst hv
  have S0 := (St.refl w).alloc #[.int .i64 b.order.start, .slice A n c, .slice A' n' c', .slice A2 n2 c2, .int .i64 b.state] 28
  have HB := Lib.hid h'
  have HS0 := Lib.hid S0
  clear S0 h h'
  obtain ⟨bo, hok⟩ : ∃ x, bookOk b = x := ⟨_, rfl⟩
  have HOK := Lib.hid hok
  clear hok
  cases bo with
  | false =>
    have HN := Bx.mk (restFor_no b HOK.out)
    go_enter Try.func16, Try.ntmps16
    go_wp2_with fail
    refine (bookValid_spec _ b _ (HB.out.up HS0.out.below)).mono ?_
    rw [HOK.out]
    rintro e w1 ⟨rfl, hb1⟩
    have HS1 := Lib.hid ((HS0.out.quiet hb1).call (St.newI w1 _ rfl))
    clear hb1
    go_wp2
    refine bodyPost_ret (v := .tuple #[.slice (some ⟨w1.heap.size, 0, none⟩) 0 0, .bool false]) (by simp [results, Try.results16, go_sem]) rfl ⟨.slice (some ⟨w1.heap.size, 0, none⟩) 0 0, by rw [HN.out]; rfl, ?_⟩
    rw [HN.out]
    exact HS1.out.pick [1] (by decide) rfl rfl
  | true =>
    have HY := Bx.mk (restFor_yes b HOK.out)
    go_enter Try.func16, Try.ntmps16
    go_wp2_with fail
    refine (bookValid_spec _ b _ (HB.out.up HS0.out.below)).mono ?_
    rw [HOK.out]
    rintro e w1 ⟨rfl, hb1⟩
    have HS1 := Lib.hid (HS0.out.quiet hb1)
    have q1 : ∀ j, w1.cell? ⟨w.heap.size, j, none⟩ = _ := HS1.out.cells 0 rfl
    clear hb1
    go_wp2_with fail
    refine (planFor_spec _ (taskFrom b) _ ((HB.out.from_ rfl).up HS1.out.below)).mono ?_
    rintro e w3 ⟨v3, rfl, s3⟩
    have HS3 := Lib.hid (HS1.out.call s3)
    clear s3
    go_wp2
    refine bodyPost_ret (v := .tuple #[v3, .bool (planFor (taskFrom b)).isSome]) (by simp [results, Try.results16, go_sem]) rfl ⟨v3, by rw [HY.out], ?_⟩
    rw [HY.out]
    exact HS3.out.pick [1] (by decide) rfl rfl
end Go.Proofs.Ytkebgldeahklmaa

/- Plain law: a plan made shorter (planShort): loops left out from the first place to the last; what deeds may be done. No program in sight. -/
namespace Go.Proofs.Ytkebgldeahklmaa
set_option linter.unusedVariables false
set_option linter.unusedSimpArgs false

/-- the last place from n down to a whose value is that at a -/
def lastTo (f : Nat → Int) (a : Nat) : Nat → Nat
  | 0 => a
  | n + 1 => if n + 1 ≤ a then a else if f (n + 1) = f a then n + 1 else lastTo f a n
theorem lastTo_same (f : Nat → Int) (a : Nat) : ∀ n, n ≤ a → lastTo f a n = a := fun n h => by
  cases n with
  | zero => rfl
  | succ n => simp [lastTo, h]
theorem lastTo_at (f : Nat → Int) (a : Nat) : ∀ n, a ≤ n → a ≤ lastTo f a n ∧ lastTo f a n ≤ n ∧ f (lastTo f a n) = f a ∧ ∀ j, lastTo f a n < j → j ≤ n → f j ≠ f a := fun n => by
  induction n with
  | zero => intro h; obtain rfl : a = 0 := by omega
            exact ⟨Nat.le_refl _, Nat.le_refl _, rfl, fun j h1 h2 => by unfold lastTo at h1; omega⟩
  | succ n ih =>
    intro h
    unfold lastTo
    by_cases h1 : n + 1 ≤ a
    · rw [if_pos h1]; exact ⟨Nat.le_refl _, h, rfl, fun j h2 h3 => by omega⟩
    · rw [if_neg h1]
      by_cases h2 : f (n + 1) = f a
      · rw [if_pos h2]; exact ⟨h, Nat.le_refl _, h2, fun j h3 h4 => by omega⟩
      · rw [if_neg h2]
        obtain ⟨k1, k2, k3, k4⟩ := ih (by omega)
        refine ⟨k1, by omega, k3, fun j h3 h4 => ?_⟩
        by_cases hj : j = n + 1
        · subst hj; exact h2
        · exact k4 j h3 (by omega)
theorem lastTo_eq {f : Nat → Int} {a n m : Nat} (h1 : a ≤ m) (h2 : m ≤ n) (h3 : f m = f a) (h4 : ∀ j, m < j → j ≤ n → f j ≠ f a) : lastTo f a n = m := by
  obtain ⟨k1, k2, k3, k4⟩ := lastTo_at f a n (by omega)
  rcases Nat.lt_trichotomy (lastTo f a n) m with h | h | h
  · exact absurd h3 (k4 m h h2)
  · exact h
  · exact absurd k3 (h4 _ h k2)
/-- the state behind the first j deeds -/
def prun (t : TaskD) (p : List Int) (j : Nat) : Int := planRun t t.start (p.take j)
/-- one loop left out, at the place a -/
def cutAt (t : TaskD) (p : List Int) (a : Nat) : List Int := p.take a ++ p.drop (lastTo (prun t p) a p.length)
def shortN (t : TaskD) (p : List Int) : Nat → List Int
  | 0 => p
  | n + 1 => cutAt t (shortN t p n) n
def planShort (t : TaskD) (p : List Int) : Option (List Int) := if planRun t t.start p < 0 then none else some (shortN t p 41)

theorem cutAt_past (t : TaskD) (p : List Int) (a : Nat) (h : p.length ≤ a) : cutAt t p a = p := by
  unfold cutAt; rw [lastTo_same _ _ _ h, List.take_append_drop]
theorem cutAt_none (t : TaskD) (p : List Int) (a : Nat) (h : ∀ j, a < j → j ≤ p.length → prun t p j ≠ prun t p a) : cutAt t p a = p := by
  rcases Nat.lt_or_ge p.length a with h1 | h1
  · exact cutAt_past t p a (by omega)
  · unfold cutAt
    rw [lastTo_eq (Nat.le_refl a) h1 rfl h, List.take_append_drop]
theorem cutAt_len (t : TaskD) (p : List Int) (a : Nat) : (cutAt t p a).length ≤ p.length := by
  unfold cutAt
  rcases Nat.lt_or_ge p.length a with h1 | h1
  · rw [lastTo_same _ _ _ (by omega)]; simp
  · have := (lastTo_at (prun t p) a p.length h1).1
    simp; omega
theorem shortN_len (t : TaskD) (p : List Int) (n : Nat) : (shortN t p n).length ≤ p.length := by
  induction n with
  | zero => exact Nat.le_refl _
  | succ n ih => exact Nat.le_trans (cutAt_len ..) ih
theorem prun_len (t : TaskD) (p : List Int) {j : Nat} (h : p.length ≤ j) : prun t p j = planRun t t.start p := by unfold prun; rw [List.take_of_length_le h]
/-- a plan that is done is done in parts -/
theorem planRun_part {t : TaskD} {s : Int} {p : List Int} (h : 0 ≤ planRun t s p) (j : Nat) : 0 ≤ planRun t s (p.take j) ∧ ∀ q, p.length ≤ 40 → q.length + min j p.length ≤ 40 → planRun t s (p.take j ++ q) = planRun t (planRun t s (p.take j)) q := by
  obtain ⟨h1, h2, h3, -⟩ := (planRun_bd t s p).1 h
  have e : planRun t s p = opt (runP t s.toNat p) := if_pos ⟨h1, h2, h3⟩
  rw [e] at h
  obtain ⟨z, hz⟩ := opt_nonneg.1 h
  have hz' := hz
  rw [← List.take_append_drop j p, runP_append] at hz
  obtain ⟨y, hy, hz⟩ := Option.bind_eq_some_iff.1 hz
  have ej : planRun t s (p.take j) = (y : Nat) := by
    unfold planRun
    rw [if_pos ⟨h1, h2, by simp; omega⟩, hy]; rfl
  have hs := (stIn_iff _).1 h2
  have hy32 : y < 32 := runP_lt t _ _ y h1 (by omega) hy
  refine ⟨by rw [ej]; omega, fun q hp hq => ?_⟩
  rw [ej]
  unfold planRun
  rw [if_pos ⟨h1, h2, by simp; omega⟩, if_pos ⟨h1, (stIn_iff _).2 (by omega), by omega⟩, runP_append, hy]
  rfl
/-- with a loop left out the same states come behind it -/
theorem prun_cut {t : TaskD} {p : List Int} (h : 0 ≤ planRun t t.start p) {a m : Nat} (ham : a ≤ m) (hm : m ≤ p.length) (e : prun t p m = prun t p a) : ∀ j, prun t (p.take a ++ p.drop m) j = if j ≤ a then prun t p j else prun t p (j - a + m) := fun j => by
  obtain ⟨h1, h2, h3, -⟩ := (planRun_bd t t.start p).1 h
  by_cases hj : j ≤ a
  · rw [if_pos hj]
    unfold prun
    rw [List.take_append_of_le_length (by simp; omega), List.take_take, Nat.min_eq_left hj]
  · rw [if_neg hj]
    have hl : (p.take a).length = a := by simp; omega
    have e1 : (p.take a ++ p.drop m).take j = p.take a ++ (p.drop m).take (j - a) := by
      rw [List.take_append, hl, List.take_of_length_le (by omega)]
    have e2 : p.take (j - a + m) = p.take m ++ (p.drop m).take (j - a) := by
      rw [Nat.add_comm, List.take_add]
    unfold prun at e ⊢
    have hql : ((p.drop m).take (j - a)).length ≤ p.length - m := by simp; omega
    rw [e1, e2, (planRun_part h a).2 _ (by omega) (by omega), (planRun_part h m).2 _ (by omega) (by omega), e]
theorem cutAt_run {t : TaskD} {p : List Int} (h : 0 ≤ planRun t t.start p) (a : Nat) : planRun t t.start (cutAt t p a) = planRun t t.start p := by
  rcases Nat.lt_or_ge p.length a with h1 | h1
  · rw [cutAt_past t p a (by omega)]
  · obtain ⟨k1, k2, k3, k4⟩ := lastTo_at (prun t p) a p.length h1
    have := prun_cut h k1 k2 k3 (cutAt t p a).length
    rw [show p.take a ++ p.drop (lastTo (prun t p) a p.length) = cutAt t p a from rfl, prun_len t _ (Nat.le_refl _)] at this
    rw [this]
    have hl : (cutAt t p a).length = a + (p.length - lastTo (prun t p) a p.length) := by unfold cutAt; simp; omega
    by_cases hj : (cutAt t p a).length ≤ a
    · rw [if_pos hj, show (cutAt t p a).length = a by omega, ← k3, show lastTo (prun t p) a p.length = p.length by omega, prun_len t p (Nat.le_refl _)]
    · rw [if_neg hj, hl, prun_len t p (by omega)]
theorem shortN_run {t : TaskD} {p : List Int} (h : 0 ≤ planRun t t.start p) (n : Nat) : planRun t t.start (shortN t p n) = planRun t t.start p := by
  induction n with
  | zero => rfl
  | succ n ih => exact (cutAt_run (by rw [ih]; exact h) n).trans ih
/-- the places ahead of a are left for good -/
def cleanTo (t : TaskD) (p : List Int) (a : Nat) : Prop := ∀ i, i < a → ∀ j, i < j → j ≤ p.length → prun t p j ≠ prun t p i
/-- nothing comes twice: the plan is short -/
theorem shortN_end {t : TaskD} {p q : List Int} {a : Nat} (h : shortN t p a = q) (hq : cleanTo t q (q.length + 1)) : ∀ n, shortN t p (a + n) = q := fun n => by
  induction n with
  | zero => exact h
  | succ n ih =>
    rw [show a + (n + 1) = (a + n) + 1 by omega]
    simp only [shortN]
    rw [ih]
    refine cutAt_none t q _ fun j h1 h2 => hq _ (by omega) j h1 h2
/-- from one place to the first that comes twice -/
theorem shortN_to {t : TaskD} {p q : List Int} {a f : Nat} (h : shortN t p a = q) (hf : a ≤ f) (hc : cleanTo t q f) : shortN t p f = q := by
  obtain ⟨n, rfl⟩ := Nat.le.dest hf
  clear hf
  induction n with
  | zero => exact h
  | succ n ih =>
    have := ih (fun i hi => hc i (by omega))
    rw [show a + (n + 1) = (a + n) + 1 by omega]
    simp only [shortN]
    rw [this]
    exact cutAt_none t q _ fun j h1 h2 => hc _ (by omega) j h1 h2
theorem cut_clean {t : TaskD} {q : List Int} (h : 0 ≤ planRun t t.start q) {f l : Nat} (hfl : f < l) (hl : l ≤ q.length) (e : prun t q l = prun t q f) (hc : cleanTo t q f) (hlast : ∀ j, l < j → j ≤ q.length → prun t q j ≠ prun t q f) :
    cutAt t q f = q.take f ++ q.drop l ∧ cleanTo t (q.take f ++ q.drop l) (f + 1) := by
  have e1 : lastTo (prun t q) f q.length = l := lastTo_eq (by omega) hl e hlast
  refine ⟨by unfold cutAt; rw [e1], fun i hi j hij hj => ?_⟩
  have hp := prun_cut h (by omega : f ≤ l) hl e
  have hlen : (q.take f ++ q.drop l).length = f + (q.length - l) := by simp; omega
  rw [hp j, hp i, if_pos (by omega : i ≤ f)]
  by_cases hjf : j ≤ f
  · rw [if_pos hjf]; exact hc i (by omega) j hij (by omega)
  · rw [if_neg hjf]
    by_cases hif : i = f
    · subst hif; exact hlast _ (by omega) (by omega)
    · exact hc i (by omega) _ (by omega) (by omega)

/-! ### what may be done -/
def mayN (ds : List DeedD) (s : Nat) (n : Nat) : List Int := ((List.range n).filter fun k => ((ds[k]?).bind (deedDo · s)).isSome).map fun k => ((k : Nat) : Int)
def deedsMay (t : TaskD) (s : Int) : List Int := if taskOk t && stIn s then mayN t.deeds s.toNat t.deeds.length else []
theorem mayN_succ (ds : List DeedD) (s n : Nat) : mayN ds s (n + 1) = mayN ds s n ++ (if ((ds[n]?).bind (deedDo · s)).isSome then [((n : Nat) : Int)] else []) := by
  unfold mayN
  rw [List.range_succ, List.filter_append, List.map_append]
  congr 1
  by_cases h : ((ds[n]?).bind (deedDo · s)).isSome = true
  · rw [if_pos h, List.filter_cons_of_pos (by exact h)]; rfl
  · rw [if_neg h, List.filter_cons_of_neg (by exact h)]; rfl
theorem mayN_mem {ds : List DeedD} {s n : Nat} {x : Int} : x ∈ mayN ds s n ↔ ∃ k : Nat, x = (k : Int) ∧ k < n ∧ ∃ s', (ds[k]?).bind (deedDo · s) = some s' := by
  unfold mayN
  simp only [List.mem_map, List.mem_filter, List.mem_range, Option.isSome_iff_exists]
  constructor
  · rintro ⟨k, ⟨h1, h2⟩, rfl⟩; exact ⟨k, rfl, h1, h2⟩
  · rintro ⟨k, rfl, h1, h2⟩; exact ⟨k, ⟨h1, h2⟩, rfl⟩
theorem mayN_len (ds : List DeedD) (s n : Nat) : (mayN ds s n).length ≤ n := by
  unfold mayN
  rw [List.length_map]
  exact Nat.le_trans (List.length_filter_le ..) (by simp)
theorem deedsMay_len (t : TaskD) (s : Int) : (deedsMay t s).length ≤ 6 := by
  unfold deedsMay
  split
  · next h =>
    simp only [Bool.and_eq_true] at h
    exact Nat.le_trans (mayN_len ..) (taskOk_parts t h.1).2.2.1
  · simp
theorem deedsMay_step {t : TaskD} {s x : Int} (h : x ∈ deedsMay t s) : ∃ s', stepP t s.toNat x = some s' := by
  unfold deedsMay at h
  split at h
  · obtain ⟨k, rfl, h1, s', h2⟩ := mayN_mem.1 h
    exact ⟨s', by unfold stepP; rw [if_pos ⟨by omega, by omega⟩, Int.toNat_natCast]; exact h2⟩
  · cases h
theorem deedsMay_bd {t : TaskD} {s x : Int} (h : x ∈ deedsMay t s) : 0 ≤ x ∧ x < 6 := by
  have h0 := h
  unfold deedsMay at h
  split at h
  · next hh =>
    simp only [Bool.and_eq_true] at hh
    have := (taskOk_parts t hh.1).2.2.1
    obtain ⟨k, rfl, h1, -⟩ := mayN_mem.1 h
    omega
  · cases h
end Go.Proofs.Ytkebgldeahklmaa

/- Rows of acts: in memory, compared, marked. -/
namespace Go.Proofs.Ytkebgldeahklmaa
set_option linter.unusedVariables false
set_option linter.unusedSimpArgs false
open Go.ChangeShapes Go.WideShapes Go.ChangeAt Go.RowKit

def flatA (aa : List ActD) : List Int := aa.flatMap fun a => [a.kind, a.number]
theorem flatA_cons (a : ActD) (aa : List ActD) : flatA (a :: aa) = a.kind :: a.number :: flatA aa := rfl
theorem flatA_append (aa bs : List ActD) : flatA (aa ++ bs) = flatA aa ++ flatA bs := by simp [flatA]
theorem flatA_len (aa : List ActD) : (flatA aa).length = aa.length * 2 := by
  induction aa with
  | nil => rfl
  | cons a aa ih => rw [flatA_cons]; simp only [List.length_cons, ih]; omega
theorem flatA_at (aa : List ActD) (i : Nat) (a : ActD) (h : aa[i]? = some a) : (flatA aa)[i * 2]? = some a.kind ∧ (flatA aa)[i * 2 + 1]? = some a.number := by
  induction aa generalizing i with
  | nil => simp at h
  | cons x aa ih =>
    rw [flatA_cons]
    cases i with
    | zero => simp at h; subst h; exact ⟨rfl, rfl⟩
    | succ i =>
      simp only [List.getElem?_cons_succ] at h
      obtain ⟨h1, h2⟩ := ih i h
      rw [show (i + 1) * 2 = i * 2 + 1 + 1 by omega]
      simp only [List.getElem?_cons_succ]
      exact ⟨h1, h2⟩
/-- a row of acts of the call's own -/
def rActs (v : Value) (aa : List ActD) : HRes := rRow 50 2 v aa.length (ints (flatA aa))
/-- a row of acts that is read -/
def RdA (w : World) (B : Nat) (A : Option Addr) (n c : Nat) (aa : List ActD) : Prop := aa.length = n ∧ RdRow w B 2 A n c (ints (flatA aa))
theorem RdA.get {w : World} {B n c i : Nat} {A : Option Addr} {aa : List ActD} (h : RdA w B A n c aa) (hi : i < n) : ∃ b off a, A = some ⟨b, off, none⟩ ∧ b < B ∧ aa[i]? = some a ∧ w.cell? ⟨b, off + i * 2, none⟩ = some (.int .i64 a.kind) ∧ w.cell? ⟨b, off + i * 2 + 1, none⟩ = some (.int .i64 a.number) := by
  obtain ⟨b, off, e, hb, hc⟩ := h.2.at_ (by omega)
  have hl := h.1
  have ha : aa[i]? = some (aa[i]'(by omega)) := List.getElem?_eq_getElem _
  obtain ⟨h1, h2⟩ := flatA_at aa i _ ha
  refine ⟨b, off, _, e, hb, ha, hc (i * 2) _ ?_, ?_⟩
  · unfold ints; rw [List.getElem?_map, h1]; rfl
  · rw [Nat.add_assoc]
    refine hc (i * 2 + 1) _ ?_
    unfold ints; rw [List.getElem?_map, h2]; rfl
theorem RdA.up {w w' : World} {A : Option Addr} {n c : Nat} {aa : List ActD} (h : RdA w w.heap.size A n c aa) (hb : Below w.heap.size w w') : RdA w' w'.heap.size A n c aa := ⟨h.1, h.2.up hb⟩
theorem St.rdA {w W : World} {L : List HRes} (h : St w W L) (i : Nat) {v : Value} {aa : List ActD} (hi : L[i]? = some (rActs v aa)) : ∃ A c, v = .slice A aa.length c ∧ RdA W W.heap.size A aa.length c aa := by
  obtain ⟨A, c, hv, hr⟩ := h.rdRow i hi
  exact ⟨A, c, hv, rfl, hr⟩
theorem St.rdA' {w W : World} {L : List HRes} (h : St w W L) (i : Nat) {A : Option Addr} {n c : Nat} {aa : List ActD} (hi : L[i]? = some (rActs (.slice A n c) aa)) : RdA W W.heap.size A n c aa := by
  obtain ⟨A', c', hv, hr⟩ := h.rdA i hi
  simp only [Value.slice.injEq] at hv
  obtain ⟨rfl, rfl, rfl⟩ := hv
  exact hr
def markAS (k n : Nat) : List ActD := (List.range n).map fun i => ⟨((k + 2 * i : Nat) : Int), ((k + 2 * i + 1 : Nat) : Int)⟩
/-- the first i marked -/
def mixA (k : Nat) (aa : List ActD) (i : Nat) : List ActD := markAS k i ++ aa.drop i
end Go.Proofs.Ytkebgldeahklmaa
