/- Joined texts: DoP, MayW, Draw. -/
import Derived.Test.YtdbgoekemffimaaSShortP
import Derived.Test.YtdbgoekemffimaaSNum
/- Plain law: what an act does to a book (bookDo), and a row of acts (bookRun); no program in sight. -/
namespace Go.Proofs.Ytdbgoekemffimaa
set_option linter.unusedVariables false
set_option linter.unusedSimpArgs false

def zeroB : BookD := ⟨⟨0, [], []⟩, [], 0⟩
/-- the deeds that were done behind an act, if it can be done -/
def doneAfter (b : BookD) (a : ActD) : Option (List Int) :=
  if a.kind = 0 then (if b.done.length < 40 ∧ a.number ∈ deedsMay b.order b.state then some (b.done ++ [a.number]) else none)
  else if a.kind = 1 then (if 1 ≤ a.number ∧ a.number ≤ b.done.length then some (b.done.take (b.done.length - a.number.toNat)) else none)
  else if a.kind = 2 then (if a.number = 0 ∧ ((planShort b.order b.done).getD []).length < b.done.length then some ((planShort b.order b.done).getD []) else none)
  else if a.kind = 3 then (if a.number = 0 ∧ 0 < ((restFor b).getD []).length ∧ b.done.length + ((restFor b).getD []).length ≤ 40 then some (b.done ++ (restFor b).getD []) else none)
  else none
def withDone (b : BookD) (d : List Int) : BookD := ⟨b.order, d, planRun b.order b.order.start d⟩
def bookDo (b : BookD) (a : ActD) : BookD := if bookOk b then (match doneAfter b a with | some d => withDone b d | none => b) else zeroB
def bookDid (b : BookD) (a : ActD) : Bool := bookOk b && (doneAfter b a).isSome

theorem bookOk_mk {o : TaskD} {d : List Int} (h : 0 ≤ planRun o o.start d) : bookOk ⟨o, d, planRun o o.start d⟩ = true := by
  obtain ⟨h1, h2, h3, h4⟩ := (planRun_bd o o.start d).1 h
  unfold bookOk
  simp only [h1, decide_eq_true h3, Bool.true_and, beq_self_eq_true, Bool.and_true]
  exact (stIn_iff _).2 ⟨h, h4⟩
/-- a plan with one more part -/
theorem planRun_app {t : TaskD} {p q : List Int} (h : 0 ≤ planRun t t.start p) (hl : p.length + q.length ≤ 40) : planRun t t.start (p ++ q) = planRun t (planRun t t.start p) q := by
  obtain ⟨h1, h2, h3, -⟩ := (planRun_bd t t.start p).1 h
  have := (planRun_part h p.length).2 q h3 (by rw [Nat.min_self]; omega)
  rwa [List.take_of_length_le (Nat.le_refl _)] at this
theorem planRun_one {t : TaskD} {s x : Int} (h : x ∈ deedsMay t s) : 0 ≤ planRun t s [x] := by
  obtain ⟨s', hs'⟩ := deedsMay_step h
  unfold deedsMay at h
  split at h
  · next hh =>
    simp only [Bool.and_eq_true] at hh
    unfold planRun
    rw [if_pos ⟨hh.1, hh.2, by simp⟩]
    simp only [runP, hs', Option.bind_some, opt]
    omega
  · cases h
theorem planFor_run {t : TaskD} {p : List Int} (h : planFor t = some p) : p.length ≤ 31 ∧ 0 ≤ planRun t t.start p ∧ evalCode t.goal (planRun t t.start p).toNat = true := by
  obtain ⟨h1, -, h3, s, h4, h5⟩ := planFor_some h
  have e : planRun t t.start p = (s : Nat) := by
    unfold planRun
    rw [if_pos ⟨h1, (stIn_iff _).2 (taskOk_parts t h1).1, by omega⟩, h4]; rfl
  refine ⟨h3, by rw [e]; omega, ?_⟩
  rw [e, Int.toNat_natCast]
  exact h5.2
theorem taskOk_from {b : BookD} (h : taskOk b.order = true) (hs : 0 ≤ b.state ∧ b.state < 32) : taskOk (taskFrom b) = true := by
  unfold taskOk taskFrom at *
  simp only [Bool.and_eq_true] at h ⊢
  exact ⟨⟨⟨(stIn_iff _).2 hs, h.1.1.2⟩, h.1.2⟩, h.2⟩
theorem planRun_from {b : BookD} (h : taskOk b.order = true) (hs : 0 ≤ b.state ∧ b.state < 32) (p : List Int) : planRun (taskFrom b) b.state p = planRun b.order b.state p := by
  have hk := taskOk_from h hs
  have e : ∀ (p : List Int) (s : Nat), runP (taskFrom b) s p = runP b.order s p := fun p => by
    induction p with
    | nil => intro s; rfl
    | cons k p ih =>
      intro s
      simp only [runP]
      rw [show stepP (taskFrom b) s k = stepP b.order s k from rfl]
      congr 1
      funext s'
      exact ih s'
  unfold planRun
  simp only [hk, h, e]
theorem restFor_run {b : BookD} {r : List Int} (h : restFor b = some r) : bookOk b = true ∧ r.length ≤ 31 ∧ 0 ≤ planRun b.order b.state r ∧ evalCode b.order.goal (planRun b.order b.state r).toNat = true := by
  cases hb : bookOk b with
  | false => rw [restFor_no b hb] at h; cases h
  | true =>
    rw [restFor_yes b hb] at h
    obtain ⟨h1, -, h3, -⟩ := bookOk_parts hb
    obtain ⟨k1, k2, k3⟩ := planFor_run h
    rw [show (taskFrom b).start = b.state from rfl, planRun_from h1 h3] at k2 k3
    exact ⟨rfl, k1, k2, k3⟩
theorem planShort_ok {b : BookD} (h : bookOk b = true) : planShort b.order b.done = some (shortN b.order b.done 41) := by
  obtain ⟨-, -, h3, h4⟩ := bookOk_parts h
  unfold planShort
  rw [if_neg (by omega)]
/-- what was done behind an act may be done -/
theorem doneAfter_run {b : BookD} {a : ActD} {d : List Int} (hb : bookOk b = true) (h : doneAfter b a = some d) : 0 ≤ planRun b.order b.order.start d := by
  obtain ⟨h1, h2, h3, h4⟩ := bookOk_parts hb
  unfold doneAfter at h
  split at h
  · split at h
    · next hc =>
      injection h with h; subst h
      rw [planRun_app (by omega) (by simp; omega), h4]
      exact planRun_one hc.2
    · cases h
  · split at h
    · split at h
      · injection h with h; subst h
        exact (planRun_part (by omega) _).1
      · cases h
    · split at h
      · split at h
        · injection h with h; subst h
          rw [planShort_ok hb, Option.getD_some, shortN_run (by omega)]; omega
        · cases h
      · split at h
        · split at h
          · next hc =>
            injection h with h; subst h
            cases hr : restFor b with
            | none => rw [hr] at hc; simp at hc
            | some r =>
              rw [hr] at hc
              simp only [Option.getD_some] at hc ⊢
              rw [planRun_app (by omega) (by omega), h4]
              exact (restFor_run hr).2.2.1
          · cases h
        · cases h
theorem withDone_ok {b : BookD} {a : ActD} {d : List Int} (hb : bookOk b = true) (h : doneAfter b a = some d) : bookOk (withDone b d) = true := bookOk_mk (doneAfter_run hb h)
theorem bookDo_ok {b : BookD} (a : ActD) (hb : bookOk b = true) : bookOk (bookDo b a) = true := by
  unfold bookDo
  rw [if_pos hb]
  cases h : doneAfter b a with
  | none => exact hb
  | some d => exact withDone_ok hb h
theorem bookDo_bad {b : BookD} {a : ActD} (hb : bookOk b = false) : bookDo b a = zeroB ∧ bookDid b a = false := by
  unfold bookDo bookDid; rw [if_neg (by rw [hb]; simp), hb]; exact ⟨rfl, rfl⟩

/-! ### many acts -/
def runB : BookD → List ActD → BookD × Nat
  | b, [] => (b, 0)
  | b, a :: as' => let r := runB (bookDo b a) as'; (r.1, r.2 + (if bookDid b a then 1 else 0))
/-- what is done up to the act k -/
def runK (b : BookD) (aa : List ActD) (k : Nat) : BookD × Nat := runB b (aa.take k)
def bookRun (b : BookD) (aa : List ActD) : BookD × Nat := if bookOk b && decide (aa.length ≤ 40) then runB b aa else (zeroB, 0)
end Go.Proofs.Ytdbgoekemffimaa

/- DeedsMay of the program and of the reference; DeedDo of the reference. -/
namespace Go.Proofs.Ytdbgoekemffimaa
set_option linter.unusedVariables false
set_option linter.unusedSimpArgs false
open Go.ChangeShapes Go.WideShapes Go.ChangeAt Go.RowKit

def deedDoR (d : DeedD) (s : Int) : Int := if deedOk d = true ∧ stIn s = true then opt (deedDo d s.toNat) else -1
def mayZ (ds : List DeedD) (s : Int) (n : Nat) : List Int := if stIn s then mayN ds s.toNat n else []
end Go.Proofs.Ytdbgoekemffimaa

/- The reader of drawn codes: l20Open, pick, odd. The reader's position stands below 2^40. -/
namespace Go.Proofs.Ytdbgoekemffimaa
open Go.ChangeShapes Go.WideShapes Go.ChangeAt Go.RowKit

/-- block g is a reader at position p, over bytes that lie below block base -/
def Rdr (w : World) (base g p : Nat) : Prop := base ≤ g ∧ p < 1099511627776 ∧ ∃ A n c xs, n ≤ 2000 ∧ RdI .u8 w base A n c xs ∧ Blk w g 97 #[.slice A n c, .int .i64 p]

theorem rdI_prefix {k : IntKind} {w : World} {B : Nat} {A : Option Addr} {n c : Nat} {xs : List Int} (h : RdI k w B A n c xs) (m : Nat) (hm : m ≤ n) : RdI k w B A m c (xs.take m) :=
  ⟨by rw [List.length_take, h.len]; omega, by have := h.cap; omega, h.capMax, fun x hx => h.wf x (List.mem_of_mem_take hx), fun hp => by
    obtain ⟨b, off, e, hb, hc⟩ := h.at_ (by omega)
    refine ⟨b, off, e, hb, fun i x hx => hc i x ?_⟩
    rw [List.getElem?_take] at hx
    split at hx
    · exact hx
    · cases hx⟩

theorem rdr_next {w : World} {base g p n c : Nat} {A : Option Addr} {xs : List Int} (hg : base ≤ g) (hp : p + 1 < 1099511627776) (hn : n ≤ 2000) (hr : RdI .u8 w base A n c xs)
    (hk : Blk w g 97 #[.slice A n c, .int .i64 p]) (q : Nat) :
    w.grownBy ((w.setCell ⟨g, 1, none⟩ (.int .i64 (p + 1 : Nat))).drewN q) (some g) ∧ Rdr ((w.setCell ⟨g, 1, none⟩ (.int .i64 (p + 1 : Nat))).drewN q) base g (p + 1) :=
  ⟨grown_drewN (only_set _ _ _ _) _, hg, hp, A, n, c, xs, hn, (hr.keep (w' := (w.setCell ⟨g, 1, none⟩ (.int .i64 (p + 1 : Nat))).drewN q) fun b o hb => by
      show (w.setCell _ _).cell? _ = _
      exact World.cell?_setCell_other _ _ _ _ (fun e => by cases e; omega)), (hk.set_ 1 _).drewN q⟩

/-- what pick returns -/
def InPick (n x : Int) : Prop := 0 ≤ x ∧ (1 ≤ n → x < n) ∧ (n < 1 → x = 0)

theorem pick_val (X m : Int) (h0 : 0 ≤ X) (h1 : X < 4611686018427387904) (hm : 1 ≤ m) : InPick m ((bits BinOp.xor IntKind.i64 X (X / 64)).tmod m) := by
  obtain ⟨t, rfl⟩ := Int.eq_ofNat_of_zero_le h0
  have e : ((t : Int) / 64) = ((t / 64 : Nat) : Int) := by omega
  rw [e, i64_xor_nat _ _ (by omega) (by omega), Int.tmod_eq_emod_of_nonneg (by omega)]
  exact ⟨Int.emod_nonneg _ (by omega), fun _ => Int.emod_lt_of_pos _ (by omega), by omega⟩
set_option maxRecDepth 100000 in
theorem pick_any (g base p : Nat) (m : Int) (w : World) (h : Rdr w base g p) (hp : p + 1 < 1099511627776) :
    Calls Try.prog 101 #[.pointer (some ⟨g, 0, none⟩), .int .i64 m] w fun e w' => (∃ x, e = .returned (.int .i64 x) ∧ InPick m x) ∧ w.grownBy w' (some g) ∧ Rdr w' base g (p + 1) := by
  obtain ⟨hg, _, A, n, c, xs, hn, hr, hk⟩ := h
  have HN := Lib.hid fun q => rdr_next hg hp hn hr hk q
  have c0 : w.cell? ⟨g, 0, none⟩ = some (.slice A n c) := hk.cell 0
  have c1 : w.cell? ⟨g, 1, none⟩ = some (.int .i64 p) := hk.cell 1
  have f1 : w.frozen? ⟨g, 1, none⟩ = false := hk.frozen 1
  by_cases hm : m < 1
  · go_enter Try.func101, Try.ntmps101
    go_wp2
    go_ret
    exact ⟨⟨0, rfl, by omega, by omega, fun _ => rfl⟩, HN.out 0⟩
  by_cases hz : n = 0
  · subst hz
    go_enter Try.func101, Try.ntmps101
    go_wp2
    go_ret
    exact ⟨⟨0, rfl, by omega, by omega, fun _ => rfl⟩, HN.out 0⟩
  have hz' : ((n : Int) == 0) = false := by simpa using hz
  by_cases hlt : p < n
  · obtain ⟨b, off, x, rfl, hb, hx, hw, hc⟩ := hr.get hlt
    have hne : b ≠ g := by omega
    have hx2 := wf_u8 hw
    obtain ⟨x0, x1⟩ := hx2
    have hc' : ∀ v, (w.setCell ⟨g, 1, none⟩ v).cell? ⟨b, off + p, none⟩ = some (.int .u8 x) := fun v => by
      rw [World.cell?_setCell_other _ _ _ _ (fun e => hne (congrArg Addr.block e).symm)]; exact hc
    clear hx hw
    go_enter Try.func101, Try.ntmps101
    go_wp2
    go_ret
    exact ⟨⟨x % m, rfl, Int.emod_nonneg _ (by omega), fun _ => Int.emod_lt_of_pos _ (by omega), by omega⟩, HN.out 0⟩
  · obtain ⟨i1, hi1⟩ : ∃ i1 : Nat, i1 = p % n := ⟨_, rfl⟩
    obtain ⟨i2, hi2⟩ : ∃ i2 : Nat, i2 = (p * 7 + 3) % n := ⟨_, rfl⟩
    obtain ⟨q, hq⟩ : ∃ q : Nat, q = p / n := ⟨_, rfl⟩
    have hm1 : i1 < n := by rw [hi1]; exact Nat.mod_lt _ (by omega)
    have hm2 : i2 < n := by rw [hi2]; exact Nat.mod_lt _ (by omega)
    have hqp : q ≤ p := by rw [hq]; exact Nat.div_le_self _ _
    have t1 : ((p : Int).tmod (n : Int)) = (i1 : Int) := by rw [hi1, Int.tmod_eq_emod_of_nonneg (by omega)]; simp
    have t2 : (((p : Int) * 7 + 3).tmod (n : Int)) = (i2 : Int) := by rw [hi2, Int.tmod_eq_emod_of_nonneg (by omega)]; simp
    have t3 : ((p : Int).tdiv (n : Int)) = (q : Int) := by rw [hq, Int.tdiv_eq_ediv_of_nonneg (by omega)]; simp
    clear hi1 hi2 hq
    obtain ⟨b, off, x, rfl, hb, hx, hw, hc⟩ := hr.get hm1
    obtain ⟨b', off', y, e, hb', hy, hwy, hcy⟩ := hr.get hm2
    simp only [Option.some.injEq, Addr.mk.injEq] at e
    obtain ⟨rfl, rfl, -⟩ := e
    have hne : b ≠ g := by omega
    obtain ⟨x0, x1⟩ := wf_u8 hw
    obtain ⟨y0, y1⟩ := wf_u8 hwy
    have hc' : ∀ v, (w.setCell ⟨g, 1, none⟩ v).cell? ⟨b, off + i1, none⟩ = some (.int .u8 x) := fun v => by
      rw [World.cell?_setCell_other _ _ _ _ (fun e => hne (congrArg Addr.block e).symm)]; exact hc
    have hcy' : ∀ v, (w.setCell ⟨g, 1, none⟩ v).cell? ⟨b, off + i2, none⟩ = some (.int .u8 y) := fun v => by
      rw [World.cell?_setCell_other _ _ _ _ (fun e => hne (congrArg Addr.block e).symm)]; exact hcy
    have X0 : IntKind.i64.wrap x = x := IntWalk.i64_in _ (by omega)
    have Y0 : IntKind.i64.wrap y = y := IntWalk.i64_in _ (by omega)
    have W1 : IntKind.i64.wrap (x * 131) = x * 131 := IntWalk.i64_in _ (by omega)
    have W2 : IntKind.i64.wrap ((p : Int) * 7) = (p : Int) * 7 := IntWalk.i64_in _ (by omega)
    have W3 : IntKind.i64.wrap ((p : Int) * 7 + 3) = (p : Int) * 7 + 3 := IntWalk.i64_in _ (by omega)
    have W4 : IntKind.i64.wrap (y * 1117) = y * 1117 := IntWalk.i64_in _ (by omega)
    have W5 : IntKind.i64.wrap (x * 131 + y * 1117) = x * 131 + y * 1117 := IntWalk.i64_in _ (by omega)
    have W6 : IntKind.i64.wrap ((p : Int) * 29) = (p : Int) * 29 := IntWalk.i64_in _ (by omega)
    have W7 : IntKind.i64.wrap (x * 131 + y * 1117 + (p : Int) * 29) = x * 131 + y * 1117 + (p : Int) * 29 := IntWalk.i64_in _ (by omega)
    have Q0 : IntKind.i64.wrap (q : Int) = (q : Int) := IntWalk.i64_in _ (by omega)
    have W8 : IntKind.i64.wrap ((q : Int) * 53) = (q : Int) * 53 := IntWalk.i64_in _ (by omega)
    have W9 : IntKind.i64.wrap (x * 131 + y * 1117 + (p : Int) * 29 + (q : Int) * 53) = x * 131 + y * 1117 + (p : Int) * 29 + (q : Int) * 53 := IntWalk.i64_in _ (by omega)
    clear hx hw hy hwy hc hcy
    go_enter Try.func101, Try.ntmps101
    go_wp2
    go_quiet (fail)
    clear X0 Y0 W1 W2 W3 W4 W5 W6 W7 Q0 W8 W9
    go_wp2
    go_ret
    exact ⟨⟨_, rfl, pick_val _ _ (by omega) (by omega) hm⟩, HN.out nq⟩

def SomeBool (e : Ending) : Prop := ∃ b : Bool, e = .returned (.bool b)
theorem odd_any (g base p : Nat) (m : Int) (w : World) (h : Rdr w base g p) (hp : p + 1 < 1099511627776) :
    Calls Try.prog 104 #[.pointer (some ⟨g, 0, none⟩), .int .i64 m] w fun e w' => SomeBool e ∧ w.grownBy w' (some g) ∧ ∃ p', p' ≤ p + 1 ∧ Rdr w' base g p' := by
  by_cases hm : 0 < m
  · go_enter Try.func104, Try.ntmps104
    go_wp2_with (go_at_call 101; refine (pick_any g base p m _ h hp).mono ?_; rintro e w' ⟨⟨x, rfl, hx⟩, hw, hr⟩; have HX := Lib.hid hx; clear hx)
    go_ret
    exact ⟨⟨_, rfl⟩, hw, p + 1, Nat.le_refl _, hr⟩
  · go_enter Try.func104, Try.ntmps104
    go_wp2
    go_ret
    exact ⟨⟨_, rfl⟩, World.grownBy.refl _ _, p, by omega, h⟩

end Go.Proofs.Ytdbgoekemffimaa
