/- Joined texts: ActCut, Iso, Fwd, NextW, StepsOn. -/
import Derived.Test.YtkebgldeahklmaaSDrawBR
import Derived.Test.YtkebgldeahklmaaSMore
import Derived.Test.YtkebgldeahklmaaSPerm
import Derived.Test.YtkebgldeahklmaaSSteps
/- A part of a row of acts: how it reads; slicing as one step of a region that draws. -/
namespace Go.Proofs.Ytkebgldeahklmaa
set_option linter.unusedVariables false
set_option linter.unusedSimpArgs false
open Go.ChangeShapes Go.WideShapes Go.ChangeAt Go.RowKit

theorem addr_add0 (a : Addr) : a.add 0 = a := by cases a with | mk b o f => cases f <;> simp [Addr.add]
theorem map_add0 (A : Option Addr) : A.map (·.add 0) = A := by cases A <;> simp [addr_add0]
/-- a row from number h on -/
def offA (A : Option Addr) (c h size : Nat) : Option Addr := if c = h then A else A.map (·.add (h * size))
theorem flatA_cut (aa : List ActD) (h : Nat) : flatA aa = flatA (aa.take h) ++ flatA (aa.drop h) := by rw [← flatA_append, List.take_append_drop]
theorem ints_app (xs ys : List Int) : ints (xs ++ ys) = ints xs ++ ints ys := by simp [ints]
theorem RdA.take {w : World} {B n c : Nat} {A : Option Addr} {aa : List ActD} (H : RdA w B A n c aa) {h : Nat} (hh : h ≤ n) : RdA w B A h c (aa.take h) := by
  have hl := H.1
  have h1 : (aa.take h).length = h := by rw [List.length_take]; omega
  refine ⟨h1, by rw [ints_len, flatA_len, h1], by have := H.2.cap; omega, H.2.capMax, fun h0 => ?_⟩
  obtain ⟨b, off, e, hb, hc⟩ := H.2.at_ (by omega)
  refine ⟨b, off, e, hb, fun i v hv => hc i v ?_⟩
  rw [flatA_cut aa h, ints_app, List.getElem?_append_left (List.getElem?_eq_some_iff.1 hv).1]
  exact hv
theorem RdA.drop {w : World} {B n c : Nat} {A : Option Addr} {aa : List ActD} (H : RdA w B A n c aa) {h : Nat} (hh : h ≤ n) : RdA w B (offA A c h 2) (n - h) (c - h) (aa.drop h) := by
  have hl := H.1
  have hcap := H.2.cap
  have h1 : (aa.drop h).length = n - h := by rw [List.length_drop]; omega
  have h2 : (aa.take h).length = h := by rw [List.length_take]; omega
  refine ⟨h1, by rw [ints_len, flatA_len, h1], by omega, by have := H.2.capMax; unfold maxLen at this ⊢; omega, fun h0 => ?_⟩
  obtain ⟨b, off, e, hb, hc⟩ := H.2.at_ (by omega)
  refine ⟨b, off + h * 2, ?_, hb, fun i v hv => ?_⟩
  · unfold offA; rw [if_neg (by omega), e]; simp [Addr.add_lit]
  · rw [Nat.add_assoc]
    refine hc (h * 2 + i) v ?_
    rw [flatA_cut aa h, ints_app, List.getElem?_append_right (by rw [ints_len, flatA_len, h2]; omega), ints_len, flatA_len, h2, Nat.add_sub_cancel_left]
    exact hv
section
variable {P : Program} {o : Oper} {a : Act} {K : Act → World → Prop} {Q : Exit → Act → World → Prop} {w : World}
theorem step_take (t : TypeId) (x q : Operand) (hop : o.op = Op.slice t x none (some q) none) (size : Nat) (ht : P.underlying t = some (.slice (P.elem t))) (hs : ∀ w, (sizeOf (P.elem t)).run P w = .ok size w)
    (A : Option Addr) (n c h : Nat) (hx : a.eval x = .slice A n c) (hq : a.eval q = .int .i64 (h : Int)) (hh : h ≤ c) (hK : K (a.put o.dst (.slice A h c)) w) : Oper.wp P o a w K Q := by
  have hrun : (Instr.slice t (.slice A n c) none (some (.int .i64 (h : Int))) none).run P w = .ok (.slice A h c) w := by
    rw [run_slice_h w t A n c ht .i64 h (by omega) (by omega), hs]
    have h0 : (if c = 0 then A else A.map (·.add (0 * size))) = A := by rw [Nat.zero_mul]; split; rfl; exact map_add0 A
    simp only [Result.andThen, sliced, h0, Int.toNat_natCast, Nat.sub_zero]
  unfold Oper.wp
  simp [execOp, hop, hx, hq, run_sliceAt_slice _ _ _ _ _ _ ht, hrun, Result.andThen]
  exact hK
theorem step_drop (t : TypeId) (x q : Operand) (hop : o.op = Op.slice t x (some q) none none) (size : Nat) (ht : P.underlying t = some (.slice (P.elem t))) (hs : ∀ w, (sizeOf (P.elem t)).run P w = .ok size w)
    (A : Option Addr) (n c h : Nat) (hx : a.eval x = .slice A n c) (hq : a.eval q = .int .i64 (h : Int)) (hh : h ≤ n) (hK : K (a.put o.dst (.slice (offA A c h size) (n - h) (c - h))) w) : Oper.wp P o a w K Q := by
  have hrun : (Instr.slice t (.slice A n c) (some (.int .i64 (h : Int))) none none).run P w = .ok (.slice (offA A c h size) (n - h) (c - h)) w := by
    rw [run_slice_l w t A n c ht .i64 h (by omega) (by omega), hs]
    simp only [Result.andThen, sliced, offA, Int.toNat_natCast]
  unfold Oper.wp
  simp [execOp, hop, hx, hq, run_sliceAt_slice _ _ _ _ _ _ ht, hrun, Result.andThen]
  exact hK
end
theorem sizeAct (w : World) : (sizeOf (Try.prog.elem 62)).run Try.prog w = .ok 2 w := by
  obtain ⟨i, h1, -, h3, -⟩ := elAct.hi
  have e : Try.prog.elem 62 = 50 := by kernel_rfl
  rw [e]
  simp [sizeOf, typeInfo, h1, h3, go_sem]
end Go.Proofs.Ytkebgldeahklmaa

/- Plain law: two tasks whose states answer each other one to one: the same steps, plans and numbers of ways; no program in sight. -/
namespace Go.Proofs.Ytkebgldeahklmaa
set_option linter.unusedVariables false
set_option linter.unusedSimpArgs false

/-- in how many ways n deeds lead from s into S -/
def waysN (ds : List DeedD) (S : Nat → Bool) : Nat → Nat → Int
  | 0, s => if S s then 1 else 0
  | n + 1, s => (ds.map fun d => match deedDo d s with
    | some s' => waysN ds S n s'
    | none => 0).sum
structure Iso (ds : List DeedD) (g : DeedD → DeedD) (f : Nat → Nat) : Prop where
  lt : ∀ s, s < 32 → f s < 32
  do_ : ∀ d ∈ ds, ∀ s, s < 32 → deedDo (g d) (f s) = (deedDo d s).map f
section
variable {ds : List DeedD} {g : DeedD → DeedD} {f : Nat → Nat} {S T : Nat → Bool}
theorem Iso.tl {d : DeedD} (h : Iso (d :: ds) g f) : Iso ds g f := ⟨h.lt, fun e he => h.do_ e (List.mem_cons_of_mem _ he)⟩
theorem Iso.back (h : Iso ds g f) (hd : ∀ d ∈ ds, deedOk d = true) (hT : ∀ s, s < 32 → T (f s) = S s) {s : Nat} (hs : s < 32) : backP (ds.map g) T (f s) = backP ds S s := by
  unfold backP
  induction ds with
  | nil => rfl
  | cons d ds ih =>
    simp only [List.map_cons, List.any_cons]
    rw [ih h.tl (fun e he => hd e (List.mem_cons_of_mem _ he)), h.do_ d (List.mem_cons_self ..) s hs]
    congr 1
    cases e : deedDo d s with
    | none => rfl
    | some s' => simp only [Option.map_some, Option.any_some]; exact hT s' (deedDo_lt d s s' (hd d (List.mem_cons_self ..)) hs e)
theorem Iso.layer (h : Iso ds g f) (hd : ∀ d ∈ ds, deedOk d = true) (hT : ∀ s, s < 32 → T (f s) = S s) (n : Nat) : ∀ s, s < 32 → layer (ds.map g) T n (f s) = Go.Proofs.Ytkebgldeahklmaa.layer ds S n s := by
  induction n with
  | zero => intro s hs; exact hT s hs
  | succ n ih => intro s hs; simp only [Go.Proofs.Ytkebgldeahklmaa.layer]; rw [ih s hs, h.back hd ih hs]
theorem Iso.stp (h : Iso ds g f) (hd : ∀ d ∈ ds, deedOk d = true) (hT : ∀ s, s < 32 → T (f s) = S s) (n : Nat) : ∀ s, s < 32 → stpN (ds.map g) T n (f s) = stpN ds S n s := by
  induction n with
  | zero => intro s hs; simp only [stpN]; rw [hT s hs]
  | succ n ih =>
    intro s hs
    simp only [stpN]
    rw [h.layer hd hT n s hs, ih s hs, h.back hd (h.layer hd hT n) hs]
theorem Iso.stpV (h : Iso ds g f) (hd : ∀ d ∈ ds, deedOk d = true) (hT : ∀ s, s < 32 → T (f s) = S s) {s : Nat} (hs : s < 32) : stpV (ds.map g) T (f s) = Go.Proofs.Ytkebgldeahklmaa.stpV ds S s := h.stp hd hT 32 s hs
theorem Iso.pick {p q : Nat → Bool} (h : Iso ds g f) (hd : ∀ d ∈ ds, deedOk d = true) (hq : ∀ s, s < 32 → q (f s) = p s) {s : Nat} (hs : s < 32) (k : Nat) : pick q (f s) (ds.map g) k = (Go.Proofs.Ytkebgldeahklmaa.pick p s ds k).map fun r => (r.1, f r.2) := by
  induction ds generalizing k with
  | nil => rfl
  | cons d ds ih =>
    have hr := ih h.tl (fun e he => hd e (List.mem_cons_of_mem _ he)) (k + 1)
    simp only [List.map_cons, Go.Proofs.Ytkebgldeahklmaa.pick]
    rw [h.do_ d (List.mem_cons_self ..) s hs]
    cases e : deedDo d s with
    | none => simpa using hr
    | some s' =>
      simp only [Option.map_some]
      rw [hq s' (deedDo_lt d s s' (hd d (List.mem_cons_self ..)) hs e)]
      cases p s' with
      | true => rfl
      | false => simpa using hr
theorem pick_mem {p : Nat → Bool} {s : Nat} {k j s' : Nat} (h : pick p s ds k = some (j, s')) : ∃ d ∈ ds, deedDo d s = some s' ∧ p s' = true := by
  induction ds generalizing k with
  | nil => cases h
  | cons d ds ih =>
    simp only [pick] at h
    cases e : deedDo d s with
    | none =>
      rw [e] at h
      obtain ⟨x, hx, hr⟩ := ih h
      exact ⟨x, List.mem_cons_of_mem _ hx, hr⟩
    | some s1 =>
      rw [e] at h
      simp only at h
      split at h
      · rename_i hp
        simp only [Option.some.injEq, Prod.mk.injEq] at h
        exact ⟨d, List.mem_cons_self .., by rw [e, h.2], h.2 ▸ hp⟩
      · obtain ⟨x, hx, hr⟩ := ih h
        exact ⟨x, List.mem_cons_of_mem _ hx, hr⟩
theorem Iso.walkP (h : Iso ds g f) (hd : ∀ d ∈ ds, deedOk d = true) (hT : ∀ s, s < 32 → T (f s) = S s) (n : Nat) : ∀ s, s < 32 → walkP (ds.map g) T n (f s) = Go.Proofs.Ytkebgldeahklmaa.walkP ds S n s := by
  induction n with
  | zero => intro s hs; rfl
  | succ n ih =>
    intro s hs
    simp only [Go.Proofs.Ytkebgldeahklmaa.walkP]
    rw [h.pick (p := fun s' => Go.Proofs.Ytkebgldeahklmaa.stpV ds S s' == (n : Int)) hd (fun s hs => by rw [h.stpV hd hT hs]) hs 0]
    cases e : Go.Proofs.Ytkebgldeahklmaa.pick (fun s' => Go.Proofs.Ytkebgldeahklmaa.stpV ds S s' == (n : Int)) s ds 0 with
    | none => rfl
    | some r =>
      obtain ⟨j, s'⟩ := r
      obtain ⟨d, hm, h1, -⟩ := pick_mem e
      simp only [Option.map_some]
      rw [ih s' (deedDo_lt d s s' (hd d hm) hs h1)]
theorem Iso.planOf (h : Iso ds g f) (hd : ∀ d ∈ ds, deedOk d = true) (hT : ∀ s, s < 32 → T (f s) = S s) {s : Nat} (hs : s < 32) : planOf (ds.map g) T (f s) = Go.Proofs.Ytkebgldeahklmaa.planOf ds S s := by
  unfold Go.Proofs.Ytkebgldeahklmaa.planOf
  rw [h.stpV hd hT hs, h.walkP hd hT _ s hs]
theorem Iso.waysN (h : Iso ds g f) (hd : ∀ d ∈ ds, deedOk d = true) (hT : ∀ s, s < 32 → T (f s) = S s) (n : Nat) : ∀ s, s < 32 → waysN (ds.map g) T n (f s) = Go.Proofs.Ytkebgldeahklmaa.waysN ds S n s := by
  induction n with
  | zero => intro s hs; simp only [Go.Proofs.Ytkebgldeahklmaa.waysN]; rw [hT s hs]
  | succ n ih =>
    intro s hs
    simp only [Go.Proofs.Ytkebgldeahklmaa.waysN, List.map_map]
    congr 1
    refine List.map_congr_left fun d hm => ?_
    simp only [Function.comp]
    rw [h.do_ d hm s hs]
    cases e : deedDo d s with
    | none => rfl
    | some s' => simp only [Option.map_some]; exact ih s' (deedDo_lt d s s' (hd d hm) hs e)
end
/-! ### forward -/
/-- what is reached from s0 by at most n deeds -/
def fwdP (ds : List DeedD) (S : Nat → Bool) (s : Nat) : Bool := (List.range 32).any fun s' => S s' && ds.any fun d => deedDo d s' == some s
def fwd (ds : List DeedD) (S : Nat → Bool) : Nat → Nat → Bool
  | 0, s => S s
  | n + 1, s => fwd ds S n s || fwdP ds (fwd ds S n) s
section
variable {ds : List DeedD} {g : DeedD → DeedD} {f : Nat → Nat} {S T : Nat → Bool}
theorem fwdP_iff {s : Nat} : fwdP ds S s = true ↔ ∃ s', s' < 32 ∧ S s' = true ∧ ∃ d ∈ ds, deedDo d s' = some s := by
  unfold fwdP
  simp only [List.any_eq_true, List.mem_range, Bool.and_eq_true, beq_iff_eq]
theorem Iso.fwdP (h : Iso ds g f) (hd : ∀ d ∈ ds, deedOk d = true) (hj : ∀ s t, s < 32 → t < 32 → f s = f t → s = t) (hsur : ∀ s, s < 32 → ∃ t, t < 32 ∧ f t = s) (hT : ∀ s, s < 32 → T (f s) = S s) {s : Nat} (hs : s < 32) : fwdP (ds.map g) T (f s) = Go.Proofs.Ytkebgldeahklmaa.fwdP ds S s := by
  rw [Bool.eq_iff_iff, fwdP_iff, fwdP_iff]
  constructor
  · rintro ⟨s', hs', hT', d', hd', e⟩
    obtain ⟨d, hm, rfl⟩ := List.mem_map.1 hd'
    obtain ⟨t, ht, rfl⟩ := hsur s' hs'
    rw [hT t ht] at hT'
    rw [h.do_ d hm t ht] at e
    obtain ⟨u, hu, e⟩ := Option.map_eq_some_iff.1 e
    have := hj u s (deedDo_lt d t u (hd d hm) ht hu) hs e
    subst this
    exact ⟨t, ht, hT', d, hm, hu⟩
  · rintro ⟨s', hs', hS', d, hm, e⟩
    exact ⟨f s', h.lt s' hs', by rw [hT s' hs']; exact hS', g d, List.mem_map.2 ⟨d, hm, rfl⟩, by rw [h.do_ d hm s' hs', e]; rfl⟩
theorem Iso.fwd (h : Iso ds g f) (hd : ∀ d ∈ ds, deedOk d = true) (hj : ∀ s t, s < 32 → t < 32 → f s = f t → s = t) (hsur : ∀ s, s < 32 → ∃ t, t < 32 ∧ f t = s) (hT : ∀ s, s < 32 → T (f s) = S s) (n : Nat) : ∀ s, s < 32 → fwd (ds.map g) T n (f s) = Go.Proofs.Ytkebgldeahklmaa.fwd ds S n s := by
  induction n with
  | zero => intro s hs; exact hT s hs
  | succ n ih => intro s hs; simp only [Go.Proofs.Ytkebgldeahklmaa.fwd]; rw [ih s hs, h.fwdP hd hj hsur ih hs]
end
end Go.Proofs.Ytkebgldeahklmaa

/- Plain law: the search forward, layer by layer, and ways counted forward and backward; no program in sight. -/
namespace Go.Proofs.Ytkebgldeahklmaa
set_option linter.unusedVariables false
set_option linter.unusedSimpArgs false

def dstN (ds : List DeedD) (S : Nat → Bool) : Nat → Nat → Int
  | 0, s => if S s then 0 else -1
  | n + 1, s => if fwd ds S n s then dstN ds S n s else if fwdP ds (fwd ds S n) s then ((n + 1 : Nat) : Int) else -1
def dstV (ds : List DeedD) (S : Nat → Bool) (s : Nat) : Int := dstN ds S 32 s
/-- nothing is added any more -/
def ffixedAt (ds : List DeedD) (S : Nat → Bool) (n : Nat) : Prop := ∀ s, s < 32 → fwdP ds (fwd ds S n) s = true → fwd ds S n s = true
section
variable {ds : List DeedD} {S : Nat → Bool}
theorem fwdP_congr {T : Nat → Bool} {s : Nat} (h : ∀ s', s' < 32 → S s' = T s') : fwdP ds S s = fwdP ds T s := by
  rw [Bool.eq_iff_iff, fwdP_iff, fwdP_iff]
  constructor
  · rintro ⟨s', h1, h2, h3⟩; exact ⟨s', h1, by rw [← h s' h1]; exact h2, h3⟩
  · rintro ⟨s', h1, h2, h3⟩; exact ⟨s', h1, by rw [h s' h1]; exact h2, h3⟩
theorem fwd_succ {n s : Nat} (h : fwd ds S n s = true) : fwd ds S (n + 1) s = true := by simp [fwd, h]
theorem fwd_mono {m n s : Nat} (hmn : m ≤ n) (h : fwd ds S m s = true) : fwd ds S n s = true := by
  induction n with
  | zero => have : m = 0 := by omega
            subst this; exact h
  | succ n ih =>
    rcases Nat.lt_or_ge m (n + 1) with h1 | h1
    · exact fwd_succ (ih (by omega))
    · have : m = n + 1 := by omega
      subst this; exact h
theorem ffixed_fwd {n : Nat} (h : ffixedAt ds S n) (m : Nat) : ∀ s, s < 32 → fwd ds S (n + m) s = fwd ds S n s := by
  induction m with
  | zero => intro s _; rfl
  | succ m ih =>
    intro s hs
    rw [← Nat.add_assoc]
    simp only [fwd]
    rw [ih s hs, fwdP_congr ih]
    cases hb : fwdP ds (fwd ds S n) s with
    | false => simp
    | true => rw [h s hs hb]; rfl
theorem cnt_growF {n : Nat} (h : ¬ ffixedAt ds S n) : cnt (fwd ds S n) 32 < cnt (fwd ds S (n + 1)) 32 := by
  unfold ffixedAt at h
  simp only [Classical.not_forall] at h
  obtain ⟨s, hs, hb, hl⟩ := h
  exact cnt_lt (fun k _ => fwd_succ) hs (by simpa using hl) (by simp [fwd, hb])
theorem ffixed_more {n : Nat} (h : ffixedAt ds S n) {m : Nat} (hm : n ≤ m) : ffixedAt ds S m := by
  intro s hs hb
  have e : ∀ s, s < 32 → fwd ds S m s = fwd ds S n s := fun s hs => by
    have := ffixed_fwd h (m - n) s hs
    rwa [show n + (m - n) = m by omega] at this
  rw [fwdP_congr e] at hb
  rw [e s hs]
  exact h s hs hb
/-- behind 31 rounds nothing is added -/
theorem ffixed31 : ffixedAt ds S 31 := by
  have key : ∀ n, (∃ s, s < 32 ∧ S s = true) → ffixedAt ds S n ∨ n + 1 ≤ cnt (fwd ds S n) 32 := by
    intro n hne
    induction n with
    | zero => exact .inr (cnt_pos.2 hne)
    | succ n ih =>
      by_cases hf : ffixedAt ds S n
      · exact .inl (ffixed_more hf (by omega))
      · rcases ih with h | h
        · exact absurd h hf
        · have := cnt_growF hf; exact .inr (by omega)
  by_cases hne : ∃ s, s < 32 ∧ S s = true
  · rcases key 31 hne with h | h
    · exact h
    · intro s hs _
      cases e : fwd ds S 31 s with
      | true => rfl
      | false =>
        have := cnt_lt (p := fwd ds S 31) (q := fun _ => true) (n := 32) (fun _ _ _ => rfl) hs e rfl
        have h2 := cnt_le (fun _ => true) 32
        omega
  · have h0 : ffixedAt ds S 0 := by
      intro s hs hb
      obtain ⟨s', h1, h2, -⟩ := fwdP_iff.1 hb
      exact absurd ⟨s', h1, h2⟩ hne
    exact ffixed_more h0 (by omega)
end
end Go.Proofs.Ytkebgldeahklmaa

/- nextStates of the program: one step of the search forward. -/
namespace Go.Proofs.Ytkebgldeahklmaa
set_option linter.unusedVariables false
set_option linter.unusedSimpArgs false
open Go.ChangeShapes Go.WideShapes Go.ChangeAt Go.RowKit

/-- the deed leads from a state of the set below m to s -/
def hitF (d : DeedD) (S m s : Nat) : Bool := (List.range m).any fun s' => bit S s' == 1 && deedDo d s' == some s
def partF (ds : List DeedD) (d : DeedD) (S m : Nat) (s : Nat) : Bool := fwdP ds (setP S) s || hitF d S m s
theorem fwdP_nil (S : Nat → Bool) (s : Nat) : fwdP [] S s = false := by simp [fwdP]
theorem partF_zero (ds : List DeedD) (d : DeedD) (S : Nat) : mset (partF ds d S 0) 32 = mset (fwdP ds (setP S)) 32 := mset_congr fun k _ => by simp [partF, hitF]
theorem hitF_succ (d : DeedD) (S m s : Nat) : hitF d S (m + 1) s = (hitF d S m s || (bit S m == 1 && deedDo d m == some s)) := by
  unfold hitF; rw [List.range_succ, List.any_append]; simp
theorem any_or {α : Type} (l : List α) (p q : α → Bool) : (l.any fun a => p a || q a) = (l.any p || l.any q) := by
  induction l with
  | nil => rfl
  | cons a l ih => simp only [List.any_cons, ih]; cases p a <;> cases q a <;> simp
theorem partF_all (ds : List DeedD) (d : DeedD) (S k : Nat) (h : ds[k]? = some d) : mset (partF (ds.take k) d S 32) 32 = mset (fwdP (ds.take (k + 1)) (setP S)) 32 := mset_congr fun s hs => by
  rw [take_succ' h]
  unfold partF hitF fwdP setP
  simp only [List.any_append, List.any_cons, List.any_nil, Bool.or_false, Bool.and_or_distrib_left]
  rw [any_or]
theorem partF_no (ds : List DeedD) (d : DeedD) (S m : Nat) (h : bit S m = 1 → ∀ s, deedDo d m = some s → False) : mset (partF ds d S (m + 1)) 32 = mset (partF ds d S m) 32 := mset_congr fun s hs => by
  unfold partF
  rw [hitF_succ]
  have : (bit S m == 1 && deedDo d m == some s) = false := by
    rw [Bool.eq_false_iff]
    intro hh
    simp only [Bool.and_eq_true, beq_iff_eq] at hh
    exact h hh.1 s hh.2
  rw [this, Bool.or_false]
theorem partF_yes (ds : List DeedD) (d : DeedD) (S m q : Nat) (h : deedDo d m = some q) (hb : bit S m = 1) : ∀ j, j < 32 → partF ds d S (m + 1) j = (partF ds d S m j || decide (q = j)) := fun j hj => by
  unfold partF
  rw [hitF_succ, h, hb, Bool.or_assoc]
  congr 1
set_option maxRecDepth 100000 in
theorem nextStates_any (A : Option Addr) (n c : Nat) (ds : List DeedD) (S : Nat) (w : World) (h : RdRow w w.heap.size 32 A n c (ints (behL ds))) (hn : ds.length = n) (hd : ∀ d ∈ ds, deedOk d = true) (hn6 : n ≤ 6) (hS : S < 4294967296) :
    Calls Try.prog 86 #[.slice A n c, .int .i64 S] w fun e w' => e = .returned (.int .i64 (mset (fwdP ds (setP S)) 32 : Nat)) ∧ Below w.heap.size w w' := by
  have HR := Lib.hid h
  have HL := Lib.hid hn
  have HDOK := Lib.hid hd
  clear h hn hd
  go_enter Try.func86, Try.ntmps86
  go_wp2
  go_loopw [12, 5] (fun i sv wr => ∃ k M : Nat, k ≤ n ∧ i = .int .i64 k ∧ sv = .int .i64 M ∧ Hid (M = mset (fwdP (ds.take k) (setP S)) 32) ∧ Below w.heap.size w wr) (fun i _ _ => n - (intOf i).toNat)
  case atStart => exact ⟨0, 0, by omega, rfl, rfl, Lib.hid (mset_zero.2 fun s _ => fwdP_nil _ s).symm, Below.refl _ _⟩
  case round =>
    obtain ⟨k, M, hk, rfl, rfl, HM, hbel⟩ := hrel
    have HB := Lib.hid hbel
    clear hbel
    by_cases hlt : k < n
    · obtain ⟨b, off, d, rfl, hb, hdk, hrow⟩ := beh_row HR.out HL.out hlt
      have HLD : Hid (∀ j v, (rowOf d)[j]? = some v → wr.cell? ⟨b, off + k * 32 + j, none⟩ = some v) := Lib.hid fun j v hv => (bcells HB.out b _ hb).trans (hrow j v hv)
      have HDK := Lib.hid hdk
      clear hrow hdk
      go_wp2_with (first
        | (refine wpList_load_arr 89 (.tmp 14) rfl rfl 3 32 undBeh b (off + k * 32) (rowOf d) rfl (by rw [rowOf_len]; exact infoBeh) HLD.out ?_)
        | (refine wpList_store_arr 89 (.tmp 7) (.tmp 15) rfl rfl _ (rowOf d) rfl rfl (by rw [rowOf_len]; exact infoBeh) (by rw [rowOf_len]; rfl) (by simp [rowOf, Value.oneCell']) ?_)
        | (refine wpList_load_arr 89 (.tmp 7) rfl rfl 3 32 undBeh wr.heap.size 0 (rowOf d) rfl (by rw [rowOf_len]; exact infoBeh) (by simp) ?_))
      have HM0 : Hid (M = mset (partF (ds.take k) d S 0) 32) := Lib.hid (HM.out.trans (partF_zero _ _ _).symm)
      have HDO := Lib.hid (HDOK.out d (List.mem_of_getElem? HDK.out))
      have HB1 : Hid (Below w.heap.size w (wr.alloc (.cells (rowOf d).toArray 89))) := Lib.hid (HB.out.alloc HB.out.size _)
      have HRO := Lib.hid (rowOf_at d)
      have HLEN := Lib.hid (rowOf_len d)
      generalize rowOf d = R at HRO HLEN HB1 ⊢
      clear HLD HM
      go_loopw [17, 5] (fun i sv wr => ∃ m M : Nat, m ≤ 32 ∧ i = .int .i64 m ∧ sv = .int .i64 M ∧ Hid (M = mset (partF (ds.take k) d S m) 32) ∧ Below w.heap.size w wr) (fun i _ _ => 32 - (intOf i).toNat)
      case atStart => exact ⟨0, M, by omega, rfl, rfl, HM0, HB1.out⟩
      case round =>
        clear HM0 HB1 HB
        obtain ⟨m, M1, hm32, rfl, rfl, HM, hbel⟩ := hrel
        have HB := Lib.hid hbel
        clear hbel
        by_cases hm : m < 32
        · obtain ⟨o, ho⟩ : ∃ o, deedDo d m = o := ⟨_, rfl⟩
          have hix := HRO.out m hm
          rw [ho] at hix
          have HIX := fun w => run_index_arr (P := Try.prog) (w := w) (xs := R) (k := m) (v := .int .i64 (opt o)) undBeh hix HLEN.out infoInt Try.underlying3
          have HO := Lib.hid ho
          clear ho
          cases o with
          | none =>
            have HM2 : Hid (M1 = mset (partF (ds.take k) d S (m + 1)) 32) := Lib.hid (HM.out.trans (partF_no _ d S m (by rw [HO.out]; exact fun _ _ h => by cases h)).symm)
            simp only [opt] at HIX
            go_wp2
            go_roundw
            case rel => exact ⟨m + 1, M1, by omega, by go_num, rfl, HM2, HB.out⟩
            case measure => simp [intOf]; omega
          | some q =>
            have hq := deedDo_lt d m q HDO.out hm HO.out
            have hbit := and_one S m (by omega)
            simp only [opt] at HIX
            by_cases hs1 : bit S m = 1
            · rw [hs1] at hbit
              have hpw := wrap_pow q (by omega)
              have hor := or_member hq HM.out (partF_yes (ds.take k) d S m q HO.out hs1)
              clear hs1
              go_wp2
              go_roundw
              case rel => exact ⟨m + 1, _, by omega, by go_num, rfl, Lib.hid rfl, HB.out⟩
              case measure => simp [intOf]; omega
            · have hs0 : bit S m = 0 := by have := bit_lt S m; omega
              rw [hs0] at hbit
              have HM2 : Hid (M1 = mset (partF (ds.take k) d S (m + 1)) 32) := Lib.hid (HM.out.trans (partF_no _ d S m (fun h _ _ => absurd (hs0.symm.trans h) (by decide))).symm)
              clear hs1 hs0
              go_wp2
              go_roundw
              case rel => exact ⟨m + 1, M1, by omega, by go_num, rfl, HM2, HB.out⟩
              case measure => simp [intOf]; omega
        · have HM2 : Hid (M1 = mset (fwdP (ds.take (k + 1)) (setP S)) 32) := Lib.hid (by rw [HM.out, show m = 32 by omega]; exact partF_all ds d S k HDK.out)
          go_wp2
          go_roundw
          case rel => exact ⟨k + 1, M1, by omega, by go_num, rfl, HM2, HB.out⟩
          case measure => simp [intOf]; omega
    · have HF : Hid (M = mset (fwdP ds (setP S)) 32) := Lib.hid (by
        rw [HM.out, List.take_of_length_le (by rw [HL.out]; omega)])
      go_wp2
      go_ret
      exact ⟨ret_int (by rw [HF.out]), HB.out⟩
end Go.Proofs.Ytkebgldeahklmaa

/- stepsOn of the program: for each state the least number of deeds from a state. -/
namespace Go.Proofs.Ytkebgldeahklmaa
set_option linter.unusedVariables false
set_option linter.unusedSimpArgs false
open Go.ChangeShapes Go.WideShapes Go.ChangeAt Go.RowKit

def only (s0 : Nat) : Nat → Bool := fun s => decide (s0 = s)
theorem mset_only {s0 : Nat} (h : s0 < 32) : mset (only s0) 32 = 2 ^ s0 := by
  have := mset_or_bit (fun _ => false) 32 s0 h
  rw [show mset (fun _ => false) 32 = 0 from mset_zero.2 fun _ _ => rfl, Nat.zero_or] at this
  rw [this]
  exact mset_congr fun k _ => by simp [only]
/-- the least numbers of deeds -/
def distL (ds : List DeedD) (p : Nat → Bool) : List Int := (List.range 32).map (dstV ds p)
theorem fwd_set {ds : List DeedD} (p : Nat → Bool) : mset (fwdP ds (setP (mset p 32))) 32 = mset (fwdP ds p) 32 := mset_congr fun s hs => fwdP_congr (setP_mset p)
/-- what is new -/
def freshF (ds : List DeedD) (p : Nat → Bool) (m : Nat) : Nat → Bool := fun s => fwdP ds (fwd ds p m) s && !fwd ds p m s
end Go.Proofs.Ytkebgldeahklmaa
