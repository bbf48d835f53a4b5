/- Joined texts: Laid, SkipU, ReadP, LineA, CondP, SayP, SayQ, CondI. -/
import Derived.Test.YtkmcengmglgdeaaGreatDoorSJourP
import Derived.Test.YtkmcengmglgdeaaGreatDoorRows
import Derived.ChangeVars
import Derived.LaidLaws
import Derived.LaidHandle
import Derived.LaidSub
import Derived.Test.YtkmcengmglgdeaaGreatDoorSDoI2
import Derived.Test.YtkmcengmglgdeaaGreatDoorSActR
import Derived.Test.YtkmcengmglgdeaaGreatDoorSActsH
import Derived.Test.YtkmcengmglgdeaaGreatDoorSBase
import Derived.Test.YtkmcengmglgdeaaGreatDoorSNextW
import Derived.Test.YtkmcengmglgdeaaGreatDoorSShortP
import Derived.Test.YtkmcengmglgdeaaGreatDoorSDraw
import Derived.Test.YtkmcengmglgdeaaGreatDoorSActT

namespace Go.Proofs.YtkmcengmglgdeaaGreatDoor
set_option linter.unusedVariables false
set_option linter.unusedSimpArgs false
set_option maxRecDepth 100000
set_option maxHeartbeats 8000000
open Go.ChangeShapes Go.WideShapes Go.RowKit
theorem laid_et : Tryz.prog.globalNamed "errors.errorType" = some 1 := by kernel_rfl
theorem laid_rt : (Tryz.prog.cutTypes.find? (·.1 == "internal/reflectlite.rtype")).map (·.2) = some 231 := by kernel_rfl
theorem laid_one : ((List.range Tryz.prog.types.size).filter fun t => Tryz.prog.rowNamed t [101, 114, 114, 111, 114]) = [119] := by kernel_rfl
theorem errH_of_laid {W : World} (h : laidMetH Tryz.prog [("errors.errorType", Rows.laid_errors_errorType)] W) : ErrH W := by
 have h' : laidMet Tryz.prog [] W ∧ handlesMet Tryz.prog [("errors.errorType", Rows.laid_errors_errorType)] W := h; obtain ⟨name, u, ty, e1, e2, e3, e4, e5⟩ := h'.2 _ (List.mem_singleton.2 rfl); have en : name = [101, 114, 114, 111, 114] := (Option.some.inj e1).symm; subst en; obtain rfl := Option.some.inj (laid_rt.symm.trans e2); have hm : ty ∈ (List.range Tryz.prog.types.size).filter fun t => Tryz.prog.rowNamed t [101, 114, 114, 111, 114] := List.mem_filter.2 ⟨List.mem_range.2 e3, e4⟩
 rw [laid_one] at hm; obtain rfl := List.mem_singleton.1 hm; have hh : typeHandle Tryz.prog 119 = .pointer (some ⟨7, 119, none⟩) := by kernel_rfl
 rw [hh] at e5
 simpa [ErrH] using World.var?_cell laid_et e5 0
theorem errH_of {l : List (String × DataW Unit)} {W : World} (h : laidMetH Tryz.prog l W) (hf : (l.filter fun x => x.1 == "errors.errorType") = [("errors.errorType", Rows.laid_errors_errorType)]) : ErrH W := by
 have := h.filter fun x => x.1 == "errors.errorType"
 rw [hf] at this; exact errH_of_laid this
open Go.ChangeShapes Go.WideShapes Go.ChangeAt Go.RowKit


def ansA (d : Bool) : ByteArray := if d = true then ⟨#[111, 107]⟩ else ⟨#[110, 111]⟩
theorem bookLine_act (v : Value) (b : BookD) (s : ByteArray) (k m : Int) (w : World) (h : RdB w w.heap.size v b) (hok : bookOk b = true) (hs : s.size ≤ 9223372036854775807) (hr : readA s.data.toList = some (k, m)) :
  Calls Tryz.prog 9 #[v, .string s] w (Gives w (fun v => .tuple #[v, .string (ansA (bookDid b ⟨k, m⟩))]) fun v => [rBook v (bookDo b ⟨k, m⟩)]) := by
 obtain ⟨G, gn, gc, G', n', c', D', dn, dc, hv⟩ := h.form; subst hv; obtain ⟨os, hos⟩ : ∃ x, b.order.start = x := ⟨_, rfl⟩; obtain ⟨st, hst⟩ : ∃ x, b.state = x := ⟨_, rfl⟩; rw [hos, hst] at h ⊢
 have HS0 : Hid (St w ((w.alloc (.cells #[.int .i64 os, .slice G gn gc, .slice G' n' c', .slice D' dn dc, .int .i64 st] 28)).alloc (.cells #[.int .i64 0, .slice none 0 0, .slice none 0 0, .slice none 0 0, .int .i64 0] 28)) [rBlk w.heap.size 28 #[.int .i64 os, .slice G gn gc, .slice G' n' c', .slice D' dn dc, .int .i64 st], rBlk (w.heap.size + 1) 28 #[.int .i64 0, .slice none 0 0, .slice none 0 0, .slice none 0 0, .int .i64 0]]) := Lib.hid (by
  have := ((St.refl w).alloc #[.int .i64 os, .slice G gn gc, .slice G' n' c', .slice D' dn dc, .int .i64 st] 28).alloc #[.int .i64 0, .slice none 0 0, .slice none 0 0, .slice none 0 0, .int .i64 0] 28
  simpa using this)
 have HB := Lib.hid h; have HOK := Bx.mk hok; have HR := Bx.mk hr; have HMW : Bx ((Lit.int .i64 m).wf = true) := Bx.mk (wf_i64_mk (by have := readA_bound hr; omega)); obtain ⟨x, hx⟩ : ∃ x, bookDo b ⟨k, m⟩ = x := ⟨_, rfl⟩; obtain ⟨did, hdid⟩ : ∃ x, bookDid b ⟨k, m⟩ = x := ⟨_, rfl⟩; have HX := Bx.mk hx; have HDID := Bx.mk hdid; obtain ⟨xs0, hxs⟩ : ∃ y, x.order.start = y := ⟨_, rfl⟩; obtain ⟨xt, hxt⟩ : ∃ y, x.state = y := ⟨_, rfl⟩; have HXS := Bx.mk hxs; have HXT := Bx.mk hxt; rw [hx, hdid]; have HS := Bx.mk hs; clear h hok hr hos hst hx hdid hxs hxt hs; go_enter Tryz.func9, Tryz.ntmps9
 go_wp2_with fail
 refine (bookValid_impl _ b _ (HB.out.up HS0.out.below)).mono ?_; rw [HOK.out]; rintro e w1 ⟨rfl, hb1⟩; have HS1 := Lib.hid (HS0.out.quiet hb1); clear hb1 HS0; have q0 := HS1.out.cells 0 rfl
 go_wp2_with fail
 refine (readAct_impl s _ HS.out).mono ?_; rw [HR.out]; rintro e w2 ⟨he, hb2⟩; have he' : e = .returned (.tuple #[.agg #[.int .i64 k, .int .i64 m], .bool true]) := he; subst he'; clear he; obtain ⟨g6, hg6⟩ : ∃ y, w2.heap.size = y := ⟨_, rfl⟩; have HS2 : Hid (St w (w2.alloc (.cells #[.int .i64 k, .int .i64 m] 64)) [rBlk w.heap.size 28 #[.int .i64 os, .slice G gn gc, .slice G' n' c', .slice D' dn dc, .int .i64 st], rBlk (w.heap.size + 1) 28 #[.int .i64 0, .slice none 0 0, .slice none 0 0, .slice none 0 0, .int .i64 0], rBlk g6 64 #[.int .i64 k, .int .i64 m]]) := Lib.hid (by rw [← hg6]; exact (HS1.out.quiet hb2).alloc _ _); clear hb2 HS1 q0; have q0 := HS2.out.cells 0 rfl
 go_wp2_with fail
 try rw [hg6]
 refine (bookDo_impl _ b k m _ (HB.out.up HS2.out.below) HMW.out).mono ?_; rw [HX.out, HDID.out]; rintro e w3 ⟨v3, rfl, s3⟩; obtain ⟨X1, i1, j1, X2, i2, j2, X3, i3, j3, hv⟩ := s3.formB 0 rfl; rw [HXS.out, HXT.out] at hv; subst hv; obtain ⟨g8, hg8⟩ : ∃ y, w3.heap.size = y := ⟨_, rfl⟩; have HS3 : Hid (St w (w3.alloc (.cells #[.int .i64 xs0, .slice X1 i1 j1, .slice X2 i2 j2, .slice X3 i3 j3, .int .i64 xt] 28)) [rBlk w.heap.size 28 #[.int .i64 os, .slice G gn gc, .slice G' n' c', .slice D' dn dc, .int .i64 st], rBlk (w.heap.size + 1) 28 #[.int .i64 0, .slice none 0 0, .slice none 0 0, .slice none 0 0, .int .i64 0], rBlk g6 64 #[.int .i64 k, .int .i64 m], rBook (.agg #[.int .i64 xs0, .slice X1 i1 j1, .slice X2 i2 j2, .slice X3 i3 j3, .int .i64 xt]) x, rBlk g8 28 #[.int .i64 xs0, .slice X1 i1 j1, .slice X2 i2 j2, .slice X3 i3 j3, .int .i64 xt]]) := Lib.hid (by rw [← hg8]; exact (HS2.out.call s3).alloc _ _); clear s3 HS2 q0 hg6; have q1 := HS3.out.cells 1 rfl; have f1 := HS3.out.free 1 rfl; have HS4 := Lib.hid ((HS3.out.set5 1 rfl (.int .i64 xs0) (.slice X1 i1 j1) (.slice X2 i2 j2) (.slice X3 i3 j3) (.int .i64 xt)).pick [3, 1] (by decide) rfl rfl)
 cases did with
 | true =>
  go_wp2; have q2 := HS4.out.cells 1 rfl; refine bodyPost_ret (v := .tuple #[.agg #[.int .i64 xs0, .slice X1 i1 j1, .slice X2 i2 j2, .slice X3 i3 j3, .int .i64 xt], .string ⟨#[111, 107]⟩]) (by simp [results, Tryz.results9, go_sem, q2]) rfl ⟨_, rfl, HS4.out.pick [0] (by decide) rfl rfl⟩
 | false =>
  go_wp2; have q2 := HS4.out.cells 1 rfl; refine bodyPost_ret (v := .tuple #[.agg #[.int .i64 xs0, .slice X1 i1 j1, .slice X2 i2 j2, .slice X3 i3 j3, .int .i64 xt], .string ⟨#[110, 111]⟩]) (by simp [results, Tryz.results9, go_sem, q2]) rfl ⟨_, rfl, HS4.out.pick [0] (by decide) rfl rfl⟩
inductive Cond where
 | one (s : Int)
 | turn (p : Cond)
 | join (s : Int) (l h : Cond)
deriving Inhabited
namespace Cond
def steps : Cond → List Int
 | .one s => [s]
 | .turn p => p.steps ++ [7]
 | .join s l h => l.steps ++ h.steps ++ [s]
def Ok : Cond → Prop
 | .one s => 0 ≤ s ∧ s ≤ 6
 | .turn p => p.Ok
 | .join s l h => (s = 8 ∨ s = 9) ∧ l.Ok ∧ h.Ok
def last : Cond → Int
 | .one s => s
 | .turn _ => 7
 | .join s _ _ => s
def mine : Cond → Nat
 | .join s _ _ => if s = 8 then 2 else 1
 | _ => 3
end Cond
def sgn (s : Int) : UInt8 := if s = 5 then 49 else if s = 6 then 48 else UInt8.ofNat (97 + s.toNat)
def Cond.text : Cond → Nat → List UInt8
 | .one s, _ => [sgn s]
 | .turn p, _ => 33 :: p.text 3
 | .join s l h, k =>
  let m := if s = 8 then 2 else 1
  let t := l.text m ++ (if s = 8 then 38 else 124) :: h.text (m + 1)
  if m < k then 40 :: (t ++ [41]) else t
theorem Cond.text_brackets (c : Cond) (k : Nat) (hk : k ≤ 3) : c.text k = if c.mine < k then 40 :: (c.text 0 ++ [41]) else c.text 0 := by
 cases c with
 | one s => rw [if_neg (by simp only [Cond.mine]; omega)]; rfl
 | turn p => rw [if_neg (by simp only [Cond.mine]; omega)]; rfl
 | join s l h =>
  simp only [Cond.text, Cond.mine, Nat.not_lt_zero, if_false]
theorem Cond.steps_pos (c : Cond) : 1 ≤ c.steps.length := by
 cases c <;> simp [Cond.steps] <;> omega
theorem Cond.text_len (c : Cond) : ∀ k, (c.text k).length ≤ 5 * c.steps.length := by
 induction c with
 | one s => intro k; simp [Cond.text, Cond.steps]
 | turn p ih => intro k; have := ih 3; simp [Cond.text, Cond.steps]; omega
 | join s l h ihl ihh =>
  intro k; simp only [Cond.text, Cond.steps]
  generalize (if s = 8 then 2 else 1) = m
  generalize (if s = 8 then (38 : UInt8) else 124) = sg
  have h1 := ihl m; have h2 := ihh (m + 1)
  split <;> simp only [List.length_cons, List.length_append, List.length_nil] <;> omega
def condStep (st : List Cond) (x : Int) : List Cond :=
 if x ≤ 6 then .one x :: st
 else if x = 7 then
  match st with
  | p :: r => .turn p :: r
  | [] => []
 else
  match st with
  | h :: l :: r => .join x l h :: r
  | _ => []
def condRun (st : List Cond) (xs : List Int) : List Cond := xs.foldl condStep st
def condOf (xs : List Int) : Cond := (condRun [] xs).headD (.one 6)
def stSteps (st : List Cond) : List Int := (st.reverse.map Cond.steps).flatten
theorem stSteps_cons (c : Cond) (st : List Cond) : stSteps (c :: st) = stSteps st ++ c.steps := by simp [stSteps]
theorem condStep_good {st : List Cond} {x : Int} {d' : Nat} (h : dStep st.length x = some d') (hok : ∀ c ∈ st, c.Ok) :
  (condStep st x).length = d' ∧ (∀ c ∈ condStep st x, c.Ok) ∧ stSteps (condStep st x) = stSteps st ++ [x] := by
 unfold dStep at h
 by_cases h1 : x < 0 ∨ 9 < x
 ·rw [if_pos h1] at h; cases h
 rw [if_neg h1] at h
 unfold condStep
 by_cases h2 : x ≤ 6
 ·rw [if_pos h2] at h ⊢
  injection h with h
  refine ⟨h, ?_, ?_⟩
  ·intro c hc
   rcases List.mem_cons.1 hc with rfl | hc
   ·exact ⟨by omega, h2⟩
   ·exact hok c hc
  ·rw [stSteps_cons]; rfl
 rw [if_neg h2] at h ⊢
 by_cases h3 : x = 7
 ·rw [if_pos h3] at h ⊢
  subst h3
  by_cases h4 : 1 ≤ st.length
  ·rw [if_pos h4] at h
   injection h with h
   match st, h4, hok with
   | p :: r, h4, hok =>
    refine ⟨h, ?_, ?_⟩
    ·intro c hc
     rcases List.mem_cons.1 hc with rfl | hc
     ·exact hok p (List.mem_cons_self ..)
     ·exact hok c (List.mem_cons_of_mem _ hc)
    ·rw [stSteps_cons, stSteps_cons]; simp [Cond.steps]
  ·rw [if_neg h4] at h; cases h
 rw [if_neg h3] at h ⊢
 by_cases h4 : 2 ≤ st.length
 ·rw [if_pos h4] at h
  injection h with h
  match st, h4, hok, h with
  | b :: a :: r, h4, hok, h =>
   refine ⟨by simp at h ⊢; omega, ?_, ?_⟩
   ·intro c hc
    rcases List.mem_cons.1 hc with rfl | hc
    ·exact ⟨by omega, hok a (by simp), hok b (by simp)⟩
    ·exact hok c (by simp [hc])
   ·rw [stSteps_cons, stSteps_cons, stSteps_cons]; simp [Cond.steps]
 ·rw [if_neg h4] at h; cases h
theorem condRun_good {xs : List Int} : ∀ {st : List Cond} {d : Nat}, dRun st.length xs = some d → (∀ c ∈ st, c.Ok) →
  (condRun st xs).length = d ∧ (∀ c ∈ condRun st xs, c.Ok) ∧ stSteps (condRun st xs) = stSteps st ++ xs := by
 induction xs with
 | nil => intro st d h hok; simp only [dRun] at h; injection h with h; exact ⟨h, hok, by simp [condRun]⟩
 | cons x xs ih =>
  intro st d h hok; simp only [dRun] at h
  cases hs : dStep st.length x with
  | none => rw [hs] at h; cases h
  | some d' =>
   rw [hs] at h; obtain ⟨a, b, c⟩ := condStep_good hs hok; have h' : dRun (condStep st x).length xs = some d := by rw [a]; exact h
   obtain ⟨p, q, r⟩ := ih h' b; exact ⟨p, q, by rw [show condRun st (x :: xs) = condRun (condStep st x) xs from rfl, r, c]; simp⟩
theorem condRun_take (xs : List Int) (k : Nat) (x : Int) (hx : xs[k]? = some x) : condRun [] (xs.take (k + 1)) = condStep (condRun [] (xs.take k)) x := by
 unfold condRun
 rw [List.take_add_one, hx]
 simp
theorem condOf_good {xs : List Int} (h : codeOk xs = true) : condRun [] xs = [condOf xs] ∧ (condOf xs).Ok ∧ (condOf xs).steps = xs := by
 obtain ⟨h1, h2, h3⟩ := (codeOk_iff xs).1 h; obtain ⟨a, b, c⟩ := condRun_good (st := []) h3 (by simp)
 have e : condRun [] xs = [condOf xs] := by
  unfold condOf
  match hh : condRun [] xs, a with
  | [t], _ => rfl
 refine ⟨e, b _ (by rw [e]; simp), ?_⟩; rw [e] at c
 simpa [stSteps] using c
def codeT (xs : List Int) : List UInt8 := if codeOk xs then (condOf xs).text 0 else []
theorem codeT_len (xs : List Int) : (codeT xs).length ≤ 200 := by
 unfold codeT
 split
 ·rename_i h; have h1 := (condOf xs).text_len 0; rw [(condOf_good h).2.2] at h1
  have := ((codeOk_iff xs).1 h).2.1
  omega
 ·simp
def takesN (x : Int) : Int := if x = 7 then 1 else if x = 8 ∨ x = 9 then 2 else 0
def needs : List Int → Int
 | [] => 0
 | x :: xs => (takesN x - 1) + needs xs
theorem needs_append (a b : List Int) : needs (a ++ b) = needs a + needs b := by
 induction a with
 | nil => simp [needs]
 | cons x a ih => simp only [List.cons_append, needs, ih]; omega
theorem Cond.needs_steps {c : Cond} (h : c.Ok) : needs c.steps = -1 := by
 induction c with
 | one s => have : takesN s = 0 := by unfold takesN; rw [if_neg (by have := h.1; have := h.2; omega), if_neg (by have := h.1; have := h.2; omega)]
            simp [Cond.steps, needs, this]
 | turn p ih => simp only [Cond.steps, needs_append, ih h]; rfl
 | join s l r ihl ihr =>
  have : takesN s = 2 := by unfold takesN; rw [if_neg (by have := h.1; omega), if_pos h.1]
  simp only [Cond.steps, needs_append, ihl h.2.1, ihr h.2.2, needs, this]; rfl
theorem Cond.needs_tail {c : Cond} (h : c.Ok) : ∀ j, 1 ≤ j → 0 ≤ needs (c.steps.drop j) := by
 induction c with
 | one s => intro j hj; rw [List.drop_eq_nil_of_le (by simpa [Cond.steps] using hj)]; simp [needs]
 | turn p ih =>
  intro j hj; simp only [Cond.steps]
  rcases Nat.lt_or_ge j p.steps.length with hl | hl
  ·rw [List.drop_append_of_le_length (by omega), needs_append]
   have := ih h j hj
   have e : needs [7] = 0 := rfl
   omega
  ·rcases Nat.lt_or_ge j (p.steps.length + 1) with h2 | h2
   ·obtain rfl : j = p.steps.length := by omega
    rw [List.drop_left]; exact Int.le_of_eq rfl
   ·rw [List.drop_eq_nil_of_le (by simpa using h2)]; simp [needs]
 | join s l r ihl ihr =>
  intro j hj; have ht : takesN s = 2 := by unfold takesN; rw [if_neg (by have := h.1; omega), if_pos h.1]
  have e1 : needs [s] = 1 := by simp [needs, ht]
  have e2 := Cond.needs_steps h.2.2; simp only [Cond.steps]; rw [List.append_assoc]
  rcases Nat.lt_or_ge j l.steps.length with hl | hl
  ·rw [List.drop_append_of_le_length (by omega), needs_append, needs_append]
   have := ihl h.2.1 j hj
   omega
  ·rw [List.drop_append, List.drop_eq_nil_of_le hl, List.nil_append]
   generalize j - l.steps.length = i
   rcases Nat.lt_or_ge i r.steps.length with h2 | h2
   ·rw [List.drop_append_of_le_length (by omega), needs_append]
    rcases Nat.eq_zero_or_pos i with rfl | hi
    ·rw [List.drop_zero]; omega
    ·have := ihr h.2.2 i hi
     omega
   ·rw [List.drop_append, List.drop_eq_nil_of_le h2, List.nil_append]
    rcases Nat.eq_zero_or_pos (i - r.steps.length) with e | e
    ·rw [e, List.drop_zero]; omega
    ·rw [List.drop_eq_nil_of_le (by simp only [List.length_cons, List.length_nil]; omega)]; simp [needs]
def letP (n k : Nat) : List UInt8 := ((List.range k).filter fun i => bit n i == 1).map fun i => UInt8.ofNat (97 + i)
def letT (n : Nat) : List UInt8 := if n = 0 then [45] else letP n 5
def setL (s : List UInt8) : Option Nat := (List.range 32).find? fun n => letT n == s
theorem letP_yes {n k : Nat} (h : bit n k = 1) : letP n (k + 1) = letP n k ++ [UInt8.ofNat (97 + k)] := by simp [letP, List.range_succ, h]
theorem letP_no {n k : Nat} (h : bit n k = 0) : letP n (k + 1) = letP n k := by simp [letP, List.range_succ, h]
theorem letT_inj : ∀ n, n < 32 → setL (letT n) = some n := by decide +kernel
theorem letT_no32 : ∀ n, n < 32 → (32 : UInt8) ∉ letT n := by decide +kernel
theorem letP_ne : ∀ n, n < 32 → n ≠ 0 → letP n 5 ≠ [] := by decide +kernel
theorem letP_len (n k : Nat) : (letP n k).length ≤ k := by
 unfold letP; rw [List.length_map]; exact Nat.le_trans (List.length_filter_le _ _) (by simp)
theorem letT_len (n : Nat) : (letT n).length ≤ 5 := by
 unfold letT; split
 ·simp
 ·exact letP_len n 5
theorem setL_some {s : List UInt8} {n : Nat} (h : setL s = some n) : n < 32 ∧ letT n = s := by
 have h1 := List.find?_some h; have h2 := List.mem_of_find?_eq_some h; exact ⟨by simpa using h2, by simpa using h1⟩
def greatZ (s : List UInt8) : Int :=
 if s.length < 1 ∨ 10 < s.length ∨ (1 < s.length ∧ s.head? = some 48) then -1 else digsGo 0 s
def truthAll (xs : List Int) : Bool := truthN xs == 4294967295
def onlyTurns (t : TaskD) : Bool := taskOk t && t.deeds.all fun d => decide (d.on = 0) && decide (d.off = 0) && truthAll d.need
def sumOk (t : TaskD) (f : Nat) : Bool :=
 onlyTurns t && (t.deeds.all fun d => popc (d.flip.toNat &&& f) % 2 == 0) && (List.range 32).all fun s => !evalCode t.goal s || !(popc (s &&& f) % 2 == popc (t.start.toNat &&& f) % 2)
def sumFor (t : TaskD) : Option Nat := (List.range 32).find? (sumOk t)
def closedOk (t : TaskD) (z : Int) : Bool :=
 taskOk t && decide (0 ≤ z ∧ z < 4294967296) && setP z.toNat t.start.toNat &&
  (List.range 32).all fun s => !setP z.toNat s || (!evalCode t.goal s && t.deeds.all fun d => match deedDo d s with | none => true | some q => setP z.toNat q)
def planOk (t : TaskD) (p : List Int) : Bool := decide (0 ≤ planRun t t.start p) && evalCode t.goal (planRun t t.start p).toNat
def planW : List UInt8 := [112, 108, 97, 110]
def closedW : List UInt8 := [99, 108, 111, 115, 101, 100]
def sumW : List UInt8 := [115, 117, 109]
def planT (p : List Int) : List UInt8 := planW ++ p.flatMap fun k => 32 :: decT k.toNat
def proofT (t : TaskD) : List UInt8 :=
 if taskOk t then
  match planFor t with
  | some p => planT p
  | none => match sumFor t with
   | some f => sumW ++ 32 :: letT f
   | none => closedW ++ 32 :: decT (mset (fwd t.deeds (only t.start.toNat) 32) 32)
 else []
def proofRight (t : TaskD) (s : List UInt8) : Int :=
 match cutW 32 [] s with
 | w :: ws =>
  if w = planW then (if planOk t (ws.map digs) then 1 else -1)
  else if w = closedW then (match ws with | [x] => if closedOk t (greatZ x) then 0 else -1 | _ => -1)
  else if w = sumW then (match ws with | [x] => (match setL x with | some f => if sumOk t f then 0 else -1 | none => -1) | _ => -1)
  else -1
 | [] => -1
theorem planFor_small {t : TaskD} {p : List Int} (h : planFor t = some p) : ∀ x ∈ p, 0 ≤ x ∧ x < 6 := by
 obtain ⟨hl, h1, -⟩ := planFor_run h; obtain ⟨h2, h3, h4, -⟩ := (planRun_bd t t.start p).1 h1
 have h6 : t.deeds.length ≤ 6 := by
  unfold taskOk at h2
  simp only [Bool.and_eq_true, decide_eq_true_eq] at h2; exact h2.1.2
 unfold planRun at h1
 rw [if_pos ⟨h2, h3, h4⟩] at h1; obtain ⟨s', hs'⟩ := opt_nonneg.1 h1; clear h1 h
 have : ∀ (p : List Int) (s s' : Nat), runP t s p = some s' → ∀ x ∈ p, 0 ≤ x ∧ x < 6 := by
  intro p
  induction p with
  | nil => intro s s' _ x hx; cases hx
  | cons k p ih =>
   intro s s' hr x hx; simp only [runP] at hr
   cases hk : stepP t s k with
   | none => rw [hk] at hr; cases hr
   | some s1 =>
    rw [hk] at hr
    rcases List.mem_cons.1 hx with rfl | hx
    ·unfold stepP at hk
     split at hk
     ·omega
     ·cases hk
    ·exact ih s1 s' hr x hx
 exact this p _ _ hs'
def okW : List UInt8 := [111, 107]
def noW : List UInt8 := [110, 111]
def noneW : List UInt8 := [110, 111, 110, 101]
def yesW : List UInt8 := [121, 101, 115]
def whatW : List UInt8 := [119, 104, 97, 116]
def canW : List UInt8 := [99, 97, 110]
def cannotW : List UInt8 := [99, 97, 110, 110, 111, 116]
def nothingW : List UInt8 := [110, 111, 116, 104, 105, 110, 103]
def finishW : List UInt8 := [102, 105, 110, 105, 115, 104]
def stateW : List UInt8 := [115, 116, 97, 116, 101]
def taskW : List UInt8 := [116, 97, 115, 107]
def doneW : List UInt8 := [100, 111, 110, 101]
def mayW : List UInt8 := [109, 97, 121]
def leftW : List UInt8 := [108, 101, 102, 116]
def endedW : List UInt8 := [101, 110, 100, 101, 100]
def proofW : List UInt8 := [112, 114, 111, 111, 102]
def checkW : List UInt8 := [99, 104, 101, 99, 107, 32]
def taskT (t : TaskD) : List UInt8 :=
 letT t.start.toNat ++ 62 :: (codeT t.goal ++ t.deeds.flatMap fun d => 59 :: (codeT d.need ++ 58 :: (letT d.on.toNat ++ 44 :: (letT d.off.toNat ++ 44 :: letT d.flip.toNat))))
def mayT : List Int → List UInt8
 | [] => noneW
 | x :: r => decT x.toNat ++ r.flatMap fun k => 44 :: decT k.toNat
def verdictW (z : Int) : List UInt8 := if z = 1 then canW else if z = 0 then cannotW else nothingW
def askT (b : BookD) (line : List UInt8) : List UInt8 :=
 if line = stateW then letT b.state.toNat
 else if line = taskW then taskT b.order
 else if line = doneW then decT b.done.length
 else if line = mayW then mayT (deedsMay b.order b.state)
 else if line = leftW then (match restFor b with | none => noneW | some p => decT p.length)
 else if line = endedW then (if bookEnded b then yesW else noW)
 else if line = proofW then proofT (taskFrom b)
 else if checkW.isPrefixOf line = true ∧ 6 < line.length then verdictW (proofRight (taskFrom b) (line.drop 6))
 else whatW
def sayB (b : BookD) (line : List UInt8) : BookD × List UInt8 :=
 if bookOk b then
  match readA line with
  | some (k, n) => (bookDo b ⟨k, n⟩, if bookDid b ⟨k, n⟩ then okW else noW)
  | none => if line = finishW then ((bookRun b (endActs b)).1, if (endActs b).length = 0 then noneW else okW) else (b, askT b line)
 else (zeroB, [])
theorem bookRun_nil {b : BookD} (h : bookOk b = true) : bookRun b [] = (b, 0) := by
 unfold bookRun; rw [h]; simp [runB]
theorem bookRun_ok {b : BookD} {aa : List ActD} (h : bookOk b = true) (hl : aa.length ≤ 40) : bookOk (bookRun b aa).1 = true ∧ (bookRun b aa).1.order = b.order := by
 unfold bookRun
 rw [h, decide_eq_true hl]; exact ⟨(runB_ok aa h).1, (runB_ok aa h).2.1⟩
theorem sayB_ok {b : BookD} (line : List UInt8) (h : bookOk b = true) : bookOk (sayB b line).1 = true ∧ (sayB b line).1.order = b.order ∧ ((sayB b line).2 = okW ∨ (sayB b line).1 = b) := by
 unfold sayB
 rw [if_pos h]
 cases hr : readA line with
 | some a =>
  obtain ⟨k, n⟩ := a; refine ⟨bookDo_ok _ h, bookDo_order _ h, ?_⟩
  show (if bookDid b ⟨k, n⟩ then okW else noW) = okW ∨ bookDo b ⟨k, n⟩ = b
  cases hd : doneAfter b ⟨k, n⟩ with
  | some d => left; rw [(bookDo_some h hd).2]; rfl
  | none => right; exact (bookDo_none h hd).1
 | none =>
  show bookOk (if line = finishW then _ else (b, askT b line)).1 = true ∧ _
  by_cases hf : line = finishW
  ·simp only [if_pos hf]; obtain ⟨h1, h2⟩ := bookRun_ok (aa := endActs b) h (Nat.le_trans (endActs_len b) (by decide)); refine ⟨h1, h2, ?_⟩
   by_cases he : (endActs b).length = 0
   ·right
    rw [List.length_eq_zero_iff.1 he, bookRun_nil h]
   ·left; rw [if_neg he]
  ·simp only [if_neg hf]; exact ⟨h, by trivial, .inr (by trivial)⟩
def saysB (b : BookD) : List (List UInt8) → BookD × List (List UInt8)
 | [] => (b, [])
 | l :: ls => ((saysB (sayB b l).1 ls).1, (sayB b l).2 :: (saysB (sayB b l).1 ls).2)
def bookSay (b : BookD) (ls : List (List UInt8)) : BookD × List (List UInt8) := if bookOk b && decide (ls.length ≤ 40) then saysB b ls else (zeroB, [])
def saysK (b : BookD) (ls : List (List UInt8)) (k : Nat) : BookD × List (List UInt8) := saysB b (ls.take k)
def Cond.val : Cond → Value
 | .one s => .iface 202 (.agg #[.int .i64 s])
 | .turn p => .iface 204 (.agg #[p.val])
 | .join s l h => .iface 208 (.agg #[.int .i64 s, l.val, h.val])
theorem Cond.val_form (c : Cond) : ∃ t d, c.val = .iface t d := by cases c <;> exact ⟨_, _, rfl⟩
theorem as_one_one (v : Value) (w : World) : (Instr.typeAssert (.iface 202 v) 185 202 true).run Tryz.prog w = .ok (.tuple #[v, .bool true]) w := by kernel_rfl
theorem as_turn_one (v : Value) (w : World) : (Instr.typeAssert (.iface 204 v) 185 202 true).run Tryz.prog w = .ok (.tuple #[.agg #[.int .i64 0], .bool false]) w := by kernel_rfl
theorem as_turn_turn (v : Value) (w : World) : (Instr.typeAssert (.iface 204 v) 185 204 true).run Tryz.prog w = .ok (.tuple #[v, .bool true]) w := by kernel_rfl
theorem as_turn_join (v : Value) (w : World) : (Instr.typeAssert (.iface 204 v) 185 208 true).run Tryz.prog w = .ok (.tuple #[.agg #[.int .i64 0, .nilIface, .nilIface], .bool false]) w := by kernel_rfl
theorem as_join_one (v : Value) (w : World) : (Instr.typeAssert (.iface 208 v) 185 202 true).run Tryz.prog w = .ok (.tuple #[.agg #[.int .i64 0], .bool false]) w := by kernel_rfl
theorem as_join_turn (v : Value) (w : World) : (Instr.typeAssert (.iface 208 v) 185 204 true).run Tryz.prog w = .ok (.tuple #[.agg #[.nilIface], .bool false]) w := by kernel_rfl
theorem as_join_join (v : Value) (w : World) : (Instr.typeAssert (.iface 208 v) 185 208 true).run Tryz.prog w = .ok (.tuple #[v, .bool true]) w := by kernel_rfl
theorem lastStep_any (c : Cond) (w : World) :
  Calls Tryz.prog 210 #[c.val] w fun e w' => e = .returned (.int .i64 c.last) ∧ Below w.heap.size w w' := by
 cases c with
 | one s =>
  simp only [Cond.val, Cond.last]; have a1 := as_one_one; go_enter Tryz.func210, Tryz.ntmps210; go_wp2; go_ret; exact ⟨rfl, (Below.refl _ _).alloc (Nat.le_refl _) _⟩
 | turn p =>
  simp only [Cond.val, Cond.last]; obtain ⟨pt, pd, hpv⟩ := p.val_form; rw [hpv]; clear hpv; have a1 := as_turn_one; have a2 := as_turn_join; go_enter Tryz.func210, Tryz.ntmps210; go_wp2; go_ret; exact ⟨rfl, Below.refl _ _⟩
 | join s l h =>
  simp only [Cond.val, Cond.last]; obtain ⟨lt, ld, hlv⟩ := l.val_form; obtain ⟨ht, hd, hhv⟩ := h.val_form; rw [hlv, hhv]; clear hlv hhv; have a1 := as_join_one; have a2 := as_join_join; go_enter Tryz.func210, Tryz.ntmps210; go_wp2; go_ret; exact ⟨rfl, (Below.refl _ _).alloc (Nat.le_refl _) _⟩
theorem sgn_toNat {s : Int} (h0 : 0 ≤ s) (h : s ≤ 4) : ((sgn s).toNat : Int) = 97 + s := by
 unfold sgn
 rw [if_neg (by omega), if_neg (by omega), UInt8.toNat_ofNat']
 omega
theorem singleText_any (s : Int) (h0 : 0 ≤ s) (h6 : s ≤ 6) (w : World) :
  Calls Tryz.prog 209 #[.int .i64 s] w fun e w' => e = .returned (.string ⟨[sgn s].toArray⟩) ∧ Below w.heap.size w w' := by
 by_cases h5 : s = 5
 ·subst h5; go_enter Tryz.func209, Tryz.ntmps209; go_wp2; go_ret; exact ⟨rfl, Below.refl _ _⟩
 by_cases hs6 : s = 6
 ·subst hs6; go_enter Tryz.func209, Tryz.ntmps209; go_wp2; go_ret; exact ⟨rfl, Below.refl _ _⟩
 have hd := sgn_toNat h0 (by omega)
 have hcv : (convert 22 9 (.slice (some ⟨w.heap.size, 0, none⟩) 1 1)).run Tryz.prog (w.alloc (.cells #[.int .u8 (97 + s)] 5)) = .ok (.string ⟨[sgn s].toArray⟩) (w.alloc (.cells #[.int .u8 (97 + s)] 5)) :=
  conv_one _ _ _ (by rw [hd]; exact (Blk.new w 5 #[.int .u8 (97 + s)]).cell 0)
 clear hd; go_enter Tryz.func209, Tryz.ntmps209; go_wp2; go_ret; exact ⟨rfl, (Below.refl _ _).alloc (Nat.le_refl _) _⟩
end Go.Proofs.YtkmcengmglgdeaaGreatDoor
