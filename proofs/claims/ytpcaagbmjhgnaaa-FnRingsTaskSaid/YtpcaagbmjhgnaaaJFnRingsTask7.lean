/- Joined texts: Turn, TTask. -/
import Derived.Test.YtpcaagbmjhgnaaaJFnRingsTaskApp
import Derived.Test.YtpcaagbmjhgnaaaJFnRingsTask6
import Derived.Test.YtpcaagbmjhgnaaaJFnRingsTaskMark2
import Derived.Deep.RegionHeld3
import Derived.Deep.DeepCutAuto

/- Codes with facts turned round: codeTurned of the program, l9Turned of the reference: one plain function. Condition: the steps are such (0..9), and the facts a state (0..31). -/
namespace Go.Proofs.Ytpcaagbmjhgnaaa
open Go.ChangeShapes Go.WideShapes Go.ChangeAt Go.RowKit

def turnOne (f : Nat) (x : Int) : List Int := if x < 5 ∧ bit f x.toNat = 1 then [x, 7] else [x]
def turnI (f : Nat) (xs : List Int) : List Int := xs.flatMap (turnOne f)
theorem turnI_take (f : Nat) (xs : List Int) (k : Nat) (x : Int) (hx : xs[k]? = some x) : turnI f (xs.take (k + 1)) = turnI f (xs.take k) ++ turnOne f x := by
  obtain ⟨h1, h2⟩ := List.getElem?_eq_some_iff.1 hx
  rw [List.take_succ_eq_append_getElem h1, h2]
  simp [turnI]
theorem turnI_len (f : Nat) (xs : List Int) : (turnI f xs).length ≤ 2 * xs.length := by
  induction xs with
  | nil => simp [turnI]
  | cons x xs ih =>
    have : turnI f (x :: xs) = turnOne f x ++ turnI f xs := by simp [turnI]
    rw [this, List.length_append, List.length_cons]
    have : (turnOne f x).length ≤ 2 := by unfold turnOne; split <;> simp
    omega
theorem turnI_wf (f : Nat) (xs : List Int) (h : ∀ x ∈ xs, (Lit.int .i64 x).wf = true) : ∀ x ∈ turnI f xs, (Lit.int .i64 x).wf = true := by
  intro x hx
  unfold turnI at hx
  obtain ⟨y, hy, hx⟩ := List.mem_flatMap.1 hx
  unfold turnOne at hx
  split at hx
  · simp at hx
    rcases hx with rfl | rfl
    · exact h _ hy
    · rfl
  · simp at hx; subst hx; exact h _ hy
theorem codeOk_in (xs : List Int) (h : codeOk xs = true) : ∀ x ∈ xs, 0 ≤ x ∧ x ≤ 9 := by
  intro x hx
  obtain ⟨k, hk⟩ := List.mem_iff_getElem?.1 hx
  have hl := (List.getElem?_eq_some_iff.1 hk).1
  obtain ⟨d, -, -, hd⟩ := codeOk_at xs h k (by omega)
  obtain ⟨d', hd'⟩ := hd x hk
  by_cases hb : x < 0 ∨ 9 < x
  · rw [dStep_out d x hb] at hd'; cases hd'
  · omega

set_option maxRecDepth 100000 in
theorem codeTurned_any (A : Option Addr) (n c : Nat) (xs : List Int) (f : Nat) (w : World) (h : RdI .i64 w w.heap.size A n c xs) (hin : ∀ x ∈ xs, 0 ≤ x ∧ x ≤ 9) (hn : n ≤ 1024) (hf : f < 32) :
    Calls Try.prog 90 #[.slice A n c, .int .i64 f] w fun e w' => (∃ v F, e = .returned v ∧ OwnI w' w.heap.size v (turnI f xs) F) ∧ Below w.heap.size w w' := by
  have hl := h.len
  have HL := Lib.hid hl
  have HIN := Lib.hid hin
  clear hl hin
  go_enter Try.func90, Try.ntmps90
  go_wp2
  go_loopw [10, 5] (fun i v wr => ∃ (k : Nat) (l : Nat), k ≤ n ∧ i = .int .i64 k ∧ l ≤ 2 * k ∧ Hid (l = (turnI f (xs.take k)).length) ∧ wr.ownsRow w.heap.size 3 1 v l (ints (turnI f (xs.take k))) ∧ Below w.heap.size w wr) (fun i _ _ => n - (intOf i).toNat)
  case atStart => exact ⟨0, 0, by omega, rfl, by omega, Lib.hid rfl, World.ownsRow_nil w _ _ 1, Below.refl _ _⟩
  case round =>
    obtain ⟨k, l, hk, rfl, hll, HLL, ho, hbel⟩ := hrel
    have hsz := hbel.size
    by_cases hlt : k < n
    · obtain ⟨b, off, x, rfl, hb, hx, hw, hc⟩ := h.get hlt
      have hcr : wr.cell? ⟨b, off + k, none⟩ = some (.int .i64 x) := (bcells hbel b _ hb).trans hc
      obtain ⟨hx0, hx9⟩ := HIN.out x (List.mem_of_getElem? hx)
      have HT := Lib.hid (turnI_take f xs k x hx)
      clear hx hc
      obtain ⟨j, rfl⟩ := Int.eq_ofNat_of_zero_le hx0
      by_cases h5 : j < 5
      · have hb1 := and_one f j (by omega)
        by_cases hbit : bit f j = 1
        · have HO : Hid (turnOne f j = [(j : Int), 7]) := Lib.hid (by unfold turnOne; rw [Int.toNat_natCast, if_pos ⟨by omega, hbit⟩])
          have hct : (((bit f j : Nat) : Int) == 1) = true := by rw [hbit]; rfl
          go_wp2_with (first
            | (at_builtin; refine wp_app elInt rfl (.tmp 14) (.tmp 16) rfl w.heap.size _ _ _ rfl (ho.alloc _) _ _ 1 1 [.int .i64 j] rfl (RdRow.new wr [.int .i64 j] 3 1 1 rfl (by unfold maxLen; omega)) (by simp [Value.oneCell']) (by omega) (by omega) (by simp; omega) ?_; intro v3 w3 hown3 hg3 hat3)
            | (at_builtin; refine wp_app elInt rfl (.tmp 27) (.tmp 28) rfl w.heap.size _ _ _ rfl (hown3.alloc _) _ _ 1 1 [.int .i64 7] rfl (RdRow.new w3 [.int .i64 7] 3 1 1 rfl (by unfold maxLen; omega)) (by simp [Value.oneCell']) (by omega) (by omega) (by have := hg3.size; simp at this ⊢; omega) ?_; intro v4 w4 hown4 hg4 hat4))
          have hs3 := hg3.size
          simp only [World.size_alloc] at hs3
          have hb3 : Below w.heap.size w w3 := (hbel.alloc hsz _).grown hg3 (by simp; omega) (fun q hq => by have := (ho.lt q hq).1; omega)
          have hb4 : Below w.heap.size w w4 := (hb3.alloc (by omega) _).grown hg4 (by simp; omega) (fun q hq => by have := (hown3.lt q hq).1; omega)
          have HF : Hid (l + 1 + 1 = (turnI f (xs.take (k + 1))).length ∧ w4.ownsRow w.heap.size 3 1 v4 (l + 1 + 1) (ints (turnI f (xs.take (k + 1))))) := Lib.hid (by
            rw [HT.out, HO.out, List.length_append, ← HLL.out, ints_append]
            refine ⟨rfl, ?_⟩
            rw [List.append_assoc] at hown4
            exact hown4)
          clear hown3 hown4 hg3 hg4 hat3 hat4
          go_wp2
          go_roundw
          case rel => exact ⟨k + 1, l + 1 + 1, by omega, by go_num, by omega, Lib.hid HF.out.1, HF.out.2, hb4⟩
          case measure => simp [intOf]; omega
        · have HO : Hid (turnOne f j = [(j : Int)]) := Lib.hid (by unfold turnOne; rw [Int.toNat_natCast, if_neg (fun hh => hbit hh.2)])
          have hct : (((bit f j : Nat) : Int) == 1) = false := by
            have := bit_lt f j
            have h0 : bit f j = 0 := by omega
            rw [h0]; rfl
          go_wp2_with (at_builtin; refine wp_app elInt rfl (.tmp 14) (.tmp 16) rfl w.heap.size _ _ _ rfl (ho.alloc _) _ _ 1 1 [.int .i64 j] rfl (RdRow.new wr [.int .i64 j] 3 1 1 rfl (by unfold maxLen; omega)) (by simp [Value.oneCell']) (by omega) (by omega) (by simp; omega) ?_; intro v3 w3 hown3 hg3 hat3)
          have hb3 : Below w.heap.size w w3 := (hbel.alloc hsz _).grown hg3 (by simp; omega) (fun q hq => by have := (ho.lt q hq).1; omega)
          have HF : Hid (l + 1 = (turnI f (xs.take (k + 1))).length ∧ w3.ownsRow w.heap.size 3 1 v3 (l + 1) (ints (turnI f (xs.take (k + 1))))) := Lib.hid (by
            rw [HT.out, HO.out, List.length_append, ← HLL.out, ints_append]
            exact ⟨rfl, hown3⟩)
          clear hown3 hg3 hat3
          go_wp2
          go_roundw
          case rel => exact ⟨k + 1, l + 1, by omega, by go_num, by omega, Lib.hid HF.out.1, HF.out.2, hb3⟩
          case measure => simp [intOf]; omega
      · have HO : Hid (turnOne f j = [(j : Int)]) := Lib.hid (by unfold turnOne; rw [if_neg (fun hh => by omega)])
        go_wp2_with (at_builtin; refine wp_app elInt rfl (.tmp 14) (.tmp 16) rfl w.heap.size _ _ _ rfl (ho.alloc _) _ _ 1 1 [.int .i64 j] rfl (RdRow.new wr [.int .i64 j] 3 1 1 rfl (by unfold maxLen; omega)) (by simp [Value.oneCell']) (by omega) (by omega) (by simp; omega) ?_; intro v3 w3 hown3 hg3 hat3)
        have hb3 : Below w.heap.size w w3 := (hbel.alloc hsz _).grown hg3 (by simp; omega) (fun q hq => by have := (ho.lt q hq).1; omega)
        have HF : Hid (l + 1 = (turnI f (xs.take (k + 1))).length ∧ w3.ownsRow w.heap.size 3 1 v3 (l + 1) (ints (turnI f (xs.take (k + 1))))) := Lib.hid (by
          rw [HT.out, HO.out, List.length_append, ← HLL.out, ints_append]
          exact ⟨rfl, hown3⟩)
        clear hown3 hg3 hat3
        go_wp2
        go_roundw
        case rel => exact ⟨k + 1, l + 1, by omega, by go_num, by omega, Lib.hid HF.out.1, HF.out.2, hb3⟩
        case measure => simp [intOf]; omega
    · have hkn : k = n := by omega
      subst hkn
      have HX : Hid (xs.take k = xs) := Lib.hid (by rw [← HL.out, List.take_length])
      have HF : Hid (OwnI wr w.heap.size u5 (turnI f xs) u5.ownBlock.toList) := Lib.hid (by
        rw [HX.out] at ho HLL
        rw [HLL.out] at ho
        exact ⟨ho, turnI_wf f xs h.wf, rfl⟩)
      go_wp2
      go_ret
      exact ⟨⟨_, _, rfl, HF.out⟩, hbel⟩
set_option maxRecDepth 100000 in
theorem l9Turned_any (A : Option Addr) (n c : Nat) (xs : List Int) (f : Nat) (w : World) (h : RdI .i64 w w.heap.size A n c xs) (hin : ∀ x ∈ xs, 0 ≤ x ∧ x ≤ 9) (hn : n ≤ 1024) (hf : f < 32) :
    Calls Try.prog 86 #[.slice A n c, .int .i64 f] w fun e w' => (∃ v F, e = .returned v ∧ OwnI w' w.heap.size v (turnI f xs) F) ∧ Below w.heap.size w w' := by
  have hl := h.len
  have HL := Lib.hid hl
  have HIN := Lib.hid hin
  clear hl hin
  go_enter Try.func86, Try.ntmps86
  go_wp2
  go_loopw [6, 5] (fun i v wr => ∃ (k : Nat) (l : Nat), k ≤ n ∧ i = .int .i64 k ∧ l ≤ 2 * k ∧ Hid (l = (turnI f (xs.take k)).length) ∧ wr.ownsRow w.heap.size 3 1 v l (ints (turnI f (xs.take k))) ∧ Below w.heap.size w wr) (fun i _ _ => n - (intOf i).toNat)
  case atStart => exact ⟨0, 0, by omega, rfl, by omega, Lib.hid rfl, World.ownsRow_lit (base := w.heap.size) (e := 3) (size := 1) w #[] 0 (Nat.le_refl _) (by unfold maxLen; omega) rfl, (Below.refl _ _).alloc (Nat.le_refl _) _⟩
  case round =>
    obtain ⟨k, l, hk, rfl, hll, HLL, ho, hbel⟩ := hrel
    have hsz := hbel.size
    by_cases hlt : k < n
    · obtain ⟨b, off, x, rfl, hb, hx, hw, hc⟩ := h.get hlt
      have hcr : wr.cell? ⟨b, off + k, none⟩ = some (.int .i64 x) := (bcells hbel b _ hb).trans hc
      obtain ⟨hx0, hx9⟩ := HIN.out x (List.mem_of_getElem? hx)
      have HT := Lib.hid (turnI_take f xs k x hx)
      clear hx
      obtain ⟨j, rfl⟩ := Int.eq_ofNat_of_zero_le hx0
      by_cases h5 : j < 5
      · by_cases hbit : bit f j = 1
        · have HO : Hid (turnOne f j = [(j : Int), 7]) := Lib.hid (by unfold turnOne; rw [Int.toNat_natCast, if_pos ⟨by omega, hbit⟩])
          have hct : (((bit f j : Nat) : Int) == 1) = true := by rw [hbit]; rfl
          go_wp2_with (first
            | (go_at_call 94; refine (l1Bit_nat f j (by omega) _).mono ?_; rintro e wq ⟨rfl, rfl⟩)
            | (at_builtin; refine wp_app elInt rfl (.tmp 14) (.tmp 19) rfl w.heap.size _ _ _ rfl (ho.alloc _) _ _ 1 1 [.int .i64 j] rfl (RdRow.new wr [.int .i64 j] 3 1 1 rfl (by unfold maxLen; omega)) (by simp [Value.oneCell']) (by omega) (by omega) (by simp; omega) ?_; intro v3 w3 hown3 hg3 hat3; have hcr3 : w3.cell? ⟨b, off + k, none⟩ = some (.int .i64 j) := (bcells ((hbel.alloc hsz _).grown hg3 (by simp; omega) (fun q hq => by have := (ho.lt q hq).1; omega)) b _ hb).trans hc)
            | (at_builtin; refine wp_app elInt rfl (.tmp 35) (.tmp 36) rfl w.heap.size _ _ _ rfl (hown3.alloc _) _ _ 1 1 [.int .i64 7] rfl (RdRow.new w3 [.int .i64 7] 3 1 1 rfl (by unfold maxLen; omega)) (by simp [Value.oneCell']) (by omega) (by omega) (by have := hg3.size; simp at this ⊢; omega) ?_; intro v4 w4 hown4 hg4 hat4))
          have hs3 := hg3.size
          simp only [World.size_alloc] at hs3
          have hb3 : Below w.heap.size w w3 := (hbel.alloc hsz _).grown hg3 (by simp; omega) (fun q hq => by have := (ho.lt q hq).1; omega)
          have hb4 : Below w.heap.size w w4 := (hb3.alloc (by omega) _).grown hg4 (by simp; omega) (fun q hq => by have := (hown3.lt q hq).1; omega)
          have HF : Hid (l + 1 + 1 = (turnI f (xs.take (k + 1))).length ∧ w4.ownsRow w.heap.size 3 1 v4 (l + 1 + 1) (ints (turnI f (xs.take (k + 1))))) := Lib.hid (by
            rw [HT.out, HO.out, List.length_append, ← HLL.out, ints_append]
            refine ⟨rfl, ?_⟩
            rw [List.append_assoc] at hown4
            exact hown4)
          clear hown3 hown4 hg3 hg4 hat3 hat4
          go_wp2
          go_roundw
          case rel => exact ⟨k + 1, l + 1 + 1, by omega, by go_num, by omega, Lib.hid HF.out.1, HF.out.2, hb4⟩
          case measure => simp [intOf]; omega
        · have HO : Hid (turnOne f j = [(j : Int)]) := Lib.hid (by unfold turnOne; rw [Int.toNat_natCast, if_neg (fun hh => hbit hh.2)])
          have hct : (((bit f j : Nat) : Int) == 1) = false := by
            have := bit_lt f j
            have h0 : bit f j = 0 := by omega
            rw [h0]; rfl
          go_wp2_with (first | (go_at_call 94; refine (l1Bit_nat f j (by omega) _).mono ?_; rintro e wq ⟨rfl, rfl⟩) | (at_builtin; refine wp_app elInt rfl (.tmp 14) (.tmp 19) rfl w.heap.size _ _ _ rfl (ho.alloc _) _ _ 1 1 [.int .i64 j] rfl (RdRow.new wr [.int .i64 j] 3 1 1 rfl (by unfold maxLen; omega)) (by simp [Value.oneCell']) (by omega) (by omega) (by simp; omega) ?_; intro v3 w3 hown3 hg3 hat3; have hcr3 : w3.cell? ⟨b, off + k, none⟩ = some (.int .i64 j) := (bcells ((hbel.alloc hsz _).grown hg3 (by simp; omega) (fun q hq => by have := (ho.lt q hq).1; omega)) b _ hb).trans hc))
          have hb3 : Below w.heap.size w w3 := (hbel.alloc hsz _).grown hg3 (by simp; omega) (fun q hq => by have := (ho.lt q hq).1; omega)
          have HF : Hid (l + 1 = (turnI f (xs.take (k + 1))).length ∧ w3.ownsRow w.heap.size 3 1 v3 (l + 1) (ints (turnI f (xs.take (k + 1))))) := Lib.hid (by
            rw [HT.out, HO.out, List.length_append, ← HLL.out, ints_append]
            exact ⟨rfl, hown3⟩)
          clear hown3 hg3 hat3
          go_wp2
          go_roundw
          case rel => exact ⟨k + 1, l + 1, by omega, by go_num, by omega, Lib.hid HF.out.1, HF.out.2, hb3⟩
          case measure => simp [intOf]; omega
      · have HO : Hid (turnOne f j = [(j : Int)]) := Lib.hid (by unfold turnOne; rw [if_neg (fun hh => by omega)])
        go_wp2_with (at_builtin; refine wp_app elInt rfl (.tmp 14) (.tmp 19) rfl w.heap.size _ _ _ rfl (ho.alloc _) _ _ 1 1 [.int .i64 j] rfl (RdRow.new wr [.int .i64 j] 3 1 1 rfl (by unfold maxLen; omega)) (by simp [Value.oneCell']) (by omega) (by omega) (by simp; omega) ?_; intro v3 w3 hown3 hg3 hat3; have hcr3 : w3.cell? ⟨b, off + k, none⟩ = some (.int .i64 j) := (bcells ((hbel.alloc hsz _).grown hg3 (by simp; omega) (fun q hq => by have := (ho.lt q hq).1; omega)) b _ hb).trans hc)
        have hb3 : Below w.heap.size w w3 := (hbel.alloc hsz _).grown hg3 (by simp; omega) (fun q hq => by have := (ho.lt q hq).1; omega)
        have HF : Hid (l + 1 = (turnI f (xs.take (k + 1))).length ∧ w3.ownsRow w.heap.size 3 1 v3 (l + 1) (ints (turnI f (xs.take (k + 1))))) := Lib.hid (by
          rw [HT.out, HO.out, List.length_append, ← HLL.out, ints_append]
          exact ⟨rfl, hown3⟩)
        clear hown3 hg3 hat3
        go_wp2
        go_roundw
        case rel => exact ⟨k + 1, l + 1, by omega, by go_num, by omega, Lib.hid HF.out.1, HF.out.2, hb3⟩
        case measure => simp [intOf]; omega
    · have hkn : k = n := by omega
      subst hkn
      have HX : Hid (xs.take k = xs) := Lib.hid (by rw [← HL.out, List.take_length])
      have HF : Hid (OwnI wr w.heap.size u5 (turnI f xs) u5.ownBlock.toList) := Lib.hid (by
        rw [HX.out] at ho HLL
        rw [HLL.out] at ho
        exact ⟨ho, turnI_wf f xs h.wf, rfl⟩)
      go_wp2
      go_ret
      exact ⟨⟨_, _, rfl, HF.out⟩, hbel⟩
end Go.Proofs.Ytpcaagbmjhgnaaa

/- Plain law: a task with some facts turned round; small words on memory. -/
namespace Go.Proofs.Ytpcaagbmjhgnaaa
open Go.ChangeShapes Go.WideShapes Go.ChangeAt Go.RowKit

def turnOn (f a b : Nat) : Nat := a - (a &&& f) + (b &&& f)
def turnD (f : Nat) (d : DeedD) : DeedD := ⟨turnI f d.need, (turnOn f d.on.toNat d.off.toNat : Nat), (turnOn f d.off.toNat d.on.toNat : Nat), d.flip⟩
def turnT (f : Nat) (t : TaskD) : TaskD := ⟨((t.start.toNat ^^^ f : Nat) : Int), turnI f t.goal, t.deeds.map (turnD f)⟩
def turnOk (t : TaskD) (f : Int) : Bool := taskOk t && stIn f && taskOk (turnT f.toNat t)
def taskTurned (t : TaskD) (f : Int) : TaskD := if turnOk t f = true then turnT f.toNat t else ⟨0, [], []⟩
theorem Blk.drew' {w : World} {g : Nat} {t : TypeId} {cs : Array Value} (h : Blk w g t cs) : Blk w.drew g t cs := h
theorem Only.then_below {F : List Nat} {a b c : World} (h : Only F a b) (k : Below a.heap.size b c) : Only F a c :=
  ⟨k.os.trans h.os, k.tape.trans h.tape, k.output.trans h.output, Nat.le_trans h.size k.size, fun i hi hn => (k.block i hi).trans (h.block i hi hn)⟩
theorem OwnT.zero (w : World) (lo : Nat) : OwnT w lo (.agg #[.int .i64 0, .slice none 0 0, .slice none 0 0]) ⟨0, [], []⟩ [] :=
  ⟨_, _, [], [], [], [], rfl, OwnI.none w lo, by simp, ⟨World.ownsRow_nil w lo _ 4, by simp, rfl, by simp [Value.ownBlock], by simp⟩, rfl, rfl⟩
theorem OwnT.of_push {w : World} {lo lo1 lo2 T : Nat} {gv dv : Value} {t : TaskD} {Fg : List Nat} {cells : List Value} {Fs : List (List Nat)} (hg : OwnI w lo1 gv t.goal Fg) (hgs : t.goal.length ≤ 1048576) (hd : PushDs w lo2 T dv t.deeds cells Fs) (hst : (Lit.int .i64 t.start).wf = true)
    (h1 : lo ≤ lo1) (h2 : lo ≤ lo2) (h3 : ∀ b ∈ Fg, b < lo2) : OwnT w lo (.agg #[.int .i64 t.start, gv, dv]) t (Fg ++ (dv.ownBlock.toList ++ Fs.flatten)) ∧ (Fg ++ (dv.ownBlock.toList ++ Fs.flatten)).Nodup := by
  refine ⟨⟨gv, dv, Fg, _, cells, Fs, rfl, hg.mono h1, hgs, hd.own.mono h2, rfl, hst⟩, ?_⟩
  rw [List.nodup_append]
  refine ⟨hg.nodup, hd.nodup, fun a ha b hb => ?_⟩
  have := h3 a ha
  have := (hd.own.lt b hb).1
  omega
theorem turn_or0 : ∀ f a b : Fin 32, (a.val - (a.val &&& f.val)) ||| (b.val &&& f.val) = turnOn f.val a.val b.val ∧ turnOn f.val a.val b.val < 64 := by decide +kernel

theorem turn_or (f a b : Nat) (hf : f < 32) (ha : a < 32) (hb : b < 32) : bits .or .i64 (bits .andNot .i64 (a : Int) (f : Int)) (bits .and .i64 (b : Int) (f : Int)) = ((turnOn f a b : Nat) : Int) := by
  have h1 : a &&& f ≤ a := Nat.and_le_left
  have h2 : b &&& f ≤ b := Nat.and_le_left
  rw [i64_andNot_nat _ _ (by omega) (by omega), i64_and_nat _ _ (by omega) (by omega), i64_or_nat _ _ (by omega) (by omega)]
  exact congrArg _ (turn_or0 ⟨f, hf⟩ ⟨a, ha⟩ ⟨b, hb⟩).1
end Go.Proofs.Ytpcaagbmjhgnaaa
