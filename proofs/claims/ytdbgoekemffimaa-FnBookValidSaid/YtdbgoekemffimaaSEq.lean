/- Joined texts: Eq, Mark, Mark2, Turn, TTask. -/
import Derived.Test.YtdbgoekemffimaaSOwn
import Derived.StillTailTactics
import Derived.Test.YtdbgoekemffimaaSNum
import Derived.Test.YtdbgoekemffimaaSApp
import Derived.Deep.RegionHeld3
import Derived.Deep.DeepCutAuto
/- The laws' helpers that compare: eqDeed, eqDeedS, eqTask: each tells whether the data are the same. -/
namespace Go.Proofs.Ytdbgoekemffimaa
open Go.ChangeShapes Go.WideShapes Go.ChangeAt Go.RowKit

end Go.Proofs.Ytdbgoekemffimaa

/- The laws' helpers that mark what a call handed back, and look whether the marks stand: markIntS, heldIntS, markDeedS, heldDeedS, markTask, heldTask. -/
namespace Go.Proofs.Ytdbgoekemffimaa
open Go.ChangeShapes Go.WideShapes Go.ChangeAt Go.RowKit

def marks (k n : Nat) : List Int := (List.range n).map fun i => ((k + i : Nat) : Int)
@[simp] theorem marks_len (k n : Nat) : (marks k n).length = n := by simp [marks]
theorem marks_get (k n i : Nat) (h : i < n) : (marks k n)[i]? = some ((k + i : Nat) : Int) := by unfold marks; rw [List.getElem?_map, List.getElem?_range h]; rfl
theorem marks_wf (k n : Nat) (hk : k + n ≤ 9223372036854775807) : ∀ x ∈ marks k n, (Lit.int .i64 x).wf = true := by
  intro x hx
  unfold marks at hx
  obtain ⟨i, hi, rfl⟩ := List.mem_map.1 hx
  have := List.mem_range.1 hi
  exact wf_i64_mk (by omega)
/-- the first i numbers marked -/
def mixI (k : Nat) (xs : List Int) (i : Nat) : List Int := marks k i ++ xs.drop i
theorem mixI_len (k : Nat) (xs : List Int) (i : Nat) (h : i ≤ xs.length) : (mixI k xs i).length = xs.length := by simp [mixI]; omega
theorem mixI_zero (k : Nat) (xs : List Int) : mixI k xs 0 = xs := by simp [mixI, marks]
theorem mixI_done (k : Nat) (xs : List Int) : mixI k xs xs.length = marks k xs.length := by simp [mixI]
theorem mixI_step (k : Nat) (xs : List Int) (i : Nat) (h : i < xs.length) : (mixI k xs i).set i ((k + i : Nat) : Int) = mixI k xs (i + 1) := by
  unfold mixI
  rw [List.set_append_right _ _ (by simp), marks_len, Nat.sub_self, List.drop_eq_getElem_cons h, List.set_cons_zero]
  have : marks k (i + 1) = marks k i ++ [((k + i : Nat) : Int)] := by simp [marks, List.range_succ]
  rw [this]; simp

def markD (k : Nat) (d : DeedD) : DeedD := ⟨marks k d.need.length, ((k + d.need.length : Nat) : Int), ((k + d.need.length + 1 : Nat) : Int), ((k + d.need.length + 2 : Nat) : Int)⟩
def mkD (d : DeedD) : Nat := d.need.length + 3
def mkDs (ds : List DeedD) : Nat := (ds.map mkD).sum
/-- the mark at which the deed at i begins -/
def markAt (k : Nat) (ds : List DeedD) (i : Nat) : Nat := k + ((ds.take i).map mkD).sum
def markDs (k : Nat) : List DeedD → List DeedD
  | [] => []
  | d :: ds => markD k d :: markDs (k + mkD d) ds
theorem markDs_len (k : Nat) (ds : List DeedD) : (markDs k ds).length = ds.length := by
  induction ds generalizing k with
  | nil => rfl
  | cons d ds ih => simp [markDs, ih]
theorem markDs_get (k : Nat) (ds : List DeedD) (i : Nat) (d : DeedD) (hd : ds[i]? = some d) : (markDs k ds)[i]? = some (markD (markAt k ds i) d) := by
  induction ds generalizing k i with
  | nil => simp at hd
  | cons e ds ih =>
    cases i with
    | zero => simp only [List.getElem?_cons_zero, Option.some.injEq] at hd; subst hd; simp [markDs, markAt]
    | succ i =>
      simp only [List.getElem?_cons_succ] at hd
      simp only [markDs, List.getElem?_cons_succ]
      rw [ih (k + mkD e) i hd]
      simp [markAt, Nat.add_assoc]
theorem markAt_step (k : Nat) (ds : List DeedD) (i : Nat) (d : DeedD) (hd : ds[i]? = some d) : markAt k ds (i + 1) = markAt k ds i + mkD d := by
  obtain ⟨h, he⟩ := List.getElem?_eq_some_iff.1 hd
  unfold markAt
  rw [List.take_succ_eq_append_getElem h, he]; simp [Nat.add_assoc]
theorem markAt_all (k : Nat) (ds : List DeedD) : markAt k ds ds.length = k + mkDs ds := by unfold markAt mkDs; rw [List.take_length]
theorem markAt_le (k : Nat) (ds : List DeedD) (i : Nat) : markAt k ds i ≤ k + mkDs ds := by
  unfold markAt mkDs
  have : (ds.map mkD).sum = ((ds.take i).map mkD).sum + ((ds.drop i).map mkD).sum := by rw [← List.sum_append, ← List.map_append, List.take_append_drop]
  omega
/-- the first i deeds marked -/
def mixD (k : Nat) (ds : List DeedD) (i : Nat) : List DeedD := (markDs k ds).take i ++ ds.drop i
theorem mixD_len (k : Nat) (ds : List DeedD) (i : Nat) (h : i ≤ ds.length) : (mixD k ds i).length = ds.length := by simp [mixD, markDs_len]; omega
theorem mixD_zero (k : Nat) (ds : List DeedD) : mixD k ds 0 = ds := by simp [mixD]
theorem mixD_done (k : Nat) (ds : List DeedD) : mixD k ds ds.length = markDs k ds := by
  unfold mixD; rw [List.take_of_length_le (by rw [markDs_len]; exact Nat.le_refl _), List.drop_length, List.append_nil]
theorem mixD_at (k : Nat) (ds : List DeedD) (i : Nat) (d : DeedD) (hd : ds[i]? = some d) : (mixD k ds i)[i]? = some d := by
  obtain ⟨h, he⟩ := List.getElem?_eq_some_iff.1 hd
  unfold mixD
  rw [List.getElem?_append_right (by simp; omega)]
  have : ((markDs k ds).take i).length = i := by rw [List.length_take, markDs_len]; omega
  rw [this, Nat.sub_self, List.getElem?_drop, Nat.add_zero]; exact hd
theorem mixD_step (k : Nat) (ds : List DeedD) (i : Nat) (d : DeedD) (hd : ds[i]? = some d) : (mixD k ds i).set i (markD (markAt k ds i) d) = mixD k ds (i + 1) := by
  obtain ⟨h, he⟩ := List.getElem?_eq_some_iff.1 hd
  have hl : ((markDs k ds).take i).length = i := by rw [List.length_take, markDs_len]; omega
  unfold mixD
  rw [List.set_append_right _ _ (by omega), hl, Nat.sub_self, List.drop_eq_getElem_cons h, List.set_cons_zero]
  have hm := markDs_get k ds i d hd
  obtain ⟨h2, h3⟩ := List.getElem?_eq_some_iff.1 hm
  rw [List.take_succ_eq_append_getElem h2, h3]; simp

def set3 (cells : List Value) (i : Nat) (a b c : Int) : List Value := ((cells.set (i * 4 + 1) (.int .i64 a)).set (i * 4 + 2) (.int .i64 b)).set (i * 4 + 3) (.int .i64 c)
theorem set3_other (cells : List Value) (i : Nat) (a b c : Int) (j : Nat) (h : j < i * 4 + 1 ∨ i * 4 + 4 ≤ j) : (set3 cells i a b c)[j]? = cells[j]? := by
  unfold set3; rw [List.getElem?_set_ne (by omega), List.getElem?_set_ne (by omega), List.getElem?_set_ne (by omega)]
theorem set3_at (cells : List Value) (i : Nat) (a b c : Int) (h : i * 4 + 3 < cells.length) : (set3 cells i a b c)[i * 4 + 1]? = some (.int .i64 a) ∧ (set3 cells i a b c)[i * 4 + 2]? = some (.int .i64 b) ∧ (set3 cells i a b c)[i * 4 + 3]? = some (.int .i64 c) := by
  unfold set3
  refine ⟨?_, ?_, ?_⟩
  · rw [List.getElem?_set_ne (by omega), List.getElem?_set_ne (by omega), List.getElem?_set_self (by omega)]
  · rw [List.getElem?_set_ne (by omega), List.getElem?_set_self (by simp; omega)]
  · rw [List.getElem?_set_self (by simp; omega)]

/-- one deed of a row of its own turned: its need in place, and its three sets -/
theorem OwnDs.turned {w w1 : World} {lo g n c : Nat} {ds : List DeedD} {F : List Nat} {cells : List Value} {Fs : List (List Nat)} (h : OwnDs w lo (.slice (some ⟨g, 0, none⟩) n c) ds F cells Fs) (hn : ds.length = n) (hnd : F.Nodup)
    (i : Nat) (d : DeedD) (hd : ds[i]? = some d) (nv : Value) (hnv : cells[i * 4]? = some nv) (Fi : List Nat) (hFi : Fs[i]? = some Fi) (e : DeedD) (hlen : e.need.length ≤ 1048576)
    (ho : OwnI w1 lo nv e.need Fi) (hon : Only Fi w w1) (hwf : (Lit.int .i64 e.on).wf = true ∧ (Lit.int .i64 e.off).wf = true ∧ (Lit.int .i64 e.flip).wf = true) :
    OwnDs (((w1.setCell ⟨g, i * 4 + 1, none⟩ (.int .i64 e.on)).setCell ⟨g, i * 4 + 2, none⟩ (.int .i64 e.off)).setCell ⟨g, i * 4 + 3, none⟩ (.int .i64 e.flip)) lo (.slice (some ⟨g, 0, none⟩) n c) (ds.set i e) F (set3 cells i e.on e.off e.flip) Fs ∧
    Only F w (((w1.setCell ⟨g, i * 4 + 1, none⟩ (.int .i64 e.on)).setCell ⟨g, i * 4 + 2, none⟩ (.int .i64 e.off)).setCell ⟨g, i * 4 + 3, none⟩ (.int .i64 e.flip)) := by
  subst hn
  have hi : i < ds.length := (List.getElem?_eq_some_iff.1 hd).1
  have hfoot := h.foot
  simp only [Value.ownBlock, Option.toList] at hfoot
  rw [hfoot] at hnd
  have hnd' := hnd
  rw [List.singleton_append, List.nodup_cons] at hnd
  obtain ⟨hgF, hflat⟩ := hnd
  have hgFi : g ∉ Fi := fun hx => hgF (mem_flat hFi hx)
  have hgw := h.row.lt g rfl
  have hrow1 : w1.ownsRow lo 44 4 (.slice (some ⟨g, 0, none⟩) ds.length c) ds.length cells := ownsRow_heap h.row fun b hb => by
    simp only [Value.ownBlock, Option.some.injEq] at hb
    subst hb
    exact hon.block _ hgw.2 hgFi
  have s1 := (hrow1.stored (i * 4 + 1) (.int .i64 e.on)).1
  have s2 := (s1.stored (i * 4 + 2) (.int .i64 e.off)).1
  have s3 := (s2.stored (i * 4 + 3) (.int .i64 e.flip)).1
  have hother : ∀ b, b ≠ g → (((w1.setCell ⟨g, i * 4 + 1, none⟩ (.int .i64 e.on)).setCell ⟨g, i * 4 + 2, none⟩ (.int .i64 e.off)).setCell ⟨g, i * 4 + 3, none⟩ (.int .i64 e.flip)).heap[b]? = w1.heap[b]? := fun b hb => by
    rw [Below.heap_setCell _ _ _ _ hb, Below.heap_setCell _ _ _ _ hb, Below.heap_setCell _ _ _ _ hb]
  have hcl : cells.length = ds.length * 4 := h.row.1
  refine ⟨⟨by rw [List.length_set]; exact s3, by rw [List.length_set]; exact h.small, by rw [List.length_set]; exact h.flen, h.foot, fun j d' Fj hd' hFj => ?_⟩, ?_⟩
  · by_cases hji : j = i
    · subst hji
      rw [List.getElem?_set_self hi] at hd'
      injection hd' with hd'
      subst hd'
      have := hFj.symm.trans hFi
      injection this with this
      subst this
      obtain ⟨c1, c2, c3⟩ := set3_at cells j e.on e.off e.flip (by omega)
      exact ⟨nv, (set3_other _ _ _ _ _ _ (by omega)).trans hnv, c1, c2, c3, ho.keep fun b hb => hother b (fun e => hgFi (by rw [← e]; exact hb)), hlen, hwf⟩
    · rw [List.getElem?_set_ne (by omega)] at hd'
      obtain ⟨nv', q0, q1, q2, q3, q4, r⟩ := h.deed j d' Fj hd' hFj
      refine ⟨nv', (set3_other _ _ _ _ _ _ (by omega)).trans q0, (set3_other _ _ _ _ _ _ (by omega)).trans q1, (set3_other _ _ _ _ _ _ (by omega)).trans q2, (set3_other _ _ _ _ _ _ (by omega)).trans q3, q4.keep fun b hb => ?_, r⟩
      have hbg : b ≠ g := fun e => hgF (by rw [← e]; exact mem_flat hFj hb)
      rw [hother b hbg]
      refine hon.block b (q4.lt b hb).2 fun hx => ?_
      -- b stands in two parts of a list without doubles
      have hj2 : j < Fs.length := (List.getElem?_eq_some_iff.1 hFj).1
      have hi2 : i < Fs.length := (List.getElem?_eq_some_iff.1 hFi).1
      have hp := List.pairwise_iff_getElem.1 (List.pairwise_flatten.1 hflat).2
      rcases Nat.lt_or_gt_of_ne hji with h1 | h1
      · exact hp j i hj2 hi2 h1 b (by rw [(List.getElem?_eq_some_iff.1 hFj).2]; exact hb) b (by rw [(List.getElem?_eq_some_iff.1 hFi).2]; exact hx) rfl
      · exact hp i j hi2 hj2 h1 b (by rw [(List.getElem?_eq_some_iff.1 hFi).2]; exact hx) b (by rw [(List.getElem?_eq_some_iff.1 hFj).2]; exact hb) rfl
  · have hsub : Only F w w1 := hon.sub fun x hx => by rw [h.foot]; exact List.mem_append_right _ (mem_flat hFi hx)
    have hgm : g ∈ F := by rw [h.foot]; simp [Value.ownBlock]
    exact ((hsub.set hgm _).set hgm _).set hgm _
end Go.Proofs.Ytdbgoekemffimaa

/- markDeedS, heldDeedS, markTask, heldTask: marks go on from a number, and stand where they were laid. Conditions: at most 2^20 of each, numbers to 2^40. -/
namespace Go.Proofs.Ytdbgoekemffimaa
open Go.ChangeShapes Go.WideShapes Go.ChangeAt Go.RowKit

def mkT (t : TaskD) : Nat := t.goal.length + mkDs t.deeds
def markT (k : Nat) (t : TaskD) : TaskD := ⟨t.start, marks k t.goal.length, markDs (k + t.goal.length) t.deeds⟩
end Go.Proofs.Ytdbgoekemffimaa

/- Codes with facts turned round: codeTurned of the program, l9Turned of the reference: one plain function. Condition: the steps are such (0..9), and the facts a state (0..31). -/
namespace Go.Proofs.Ytdbgoekemffimaa
open Go.ChangeShapes Go.WideShapes Go.ChangeAt Go.RowKit

def turnOne (f : Nat) (x : Int) : List Int := if x < 5 ∧ bit f x.toNat = 1 then [x, 7] else [x]
def turnI (f : Nat) (xs : List Int) : List Int := xs.flatMap (turnOne f)
theorem turnI_take (f : Nat) (xs : List Int) (k : Nat) (x : Int) (hx : xs[k]? = some x) : turnI f (xs.take (k + 1)) = turnI f (xs.take k) ++ turnOne f x := by
  obtain ⟨h1, h2⟩ := List.getElem?_eq_some_iff.1 hx
  rw [List.take_succ_eq_append_getElem h1, h2]
  simp [turnI]
theorem turnI_len (f : Nat) (xs : List Int) : (turnI f xs).length ≤ 2 * xs.length := by
  induction xs with
  | nil => simp [turnI]
  | cons x xs ih =>
    have : turnI f (x :: xs) = turnOne f x ++ turnI f xs := by simp [turnI]
    rw [this, List.length_append, List.length_cons]
    have : (turnOne f x).length ≤ 2 := by unfold turnOne; split <;> simp
    omega
theorem turnI_wf (f : Nat) (xs : List Int) (h : ∀ x ∈ xs, (Lit.int .i64 x).wf = true) : ∀ x ∈ turnI f xs, (Lit.int .i64 x).wf = true := by
  intro x hx
  unfold turnI at hx
  obtain ⟨y, hy, hx⟩ := List.mem_flatMap.1 hx
  unfold turnOne at hx
  split at hx
  · simp at hx
    rcases hx with rfl | rfl
    · exact h _ hy
    · rfl
  · simp at hx; subst hx; exact h _ hy
theorem codeOk_in (xs : List Int) (h : codeOk xs = true) : ∀ x ∈ xs, 0 ≤ x ∧ x ≤ 9 := by
  intro x hx
  obtain ⟨k, hk⟩ := List.mem_iff_getElem?.1 hx
  have hl := (List.getElem?_eq_some_iff.1 hk).1
  obtain ⟨d, -, -, hd⟩ := codeOk_at xs h k (by omega)
  obtain ⟨d', hd'⟩ := hd x hk
  by_cases hb : x < 0 ∨ 9 < x
  · rw [dStep_out d x hb] at hd'; cases hd'
  · omega

end Go.Proofs.Ytdbgoekemffimaa

/- Plain law: a task with some facts turned round; small words on memory. -/
namespace Go.Proofs.Ytdbgoekemffimaa
open Go.ChangeShapes Go.WideShapes Go.ChangeAt Go.RowKit

def turnOn (f a b : Nat) : Nat := a - (a &&& f) + (b &&& f)
def turnD (f : Nat) (d : DeedD) : DeedD := ⟨turnI f d.need, (turnOn f d.on.toNat d.off.toNat : Nat), (turnOn f d.off.toNat d.on.toNat : Nat), d.flip⟩
def turnT (f : Nat) (t : TaskD) : TaskD := ⟨((t.start.toNat ^^^ f : Nat) : Int), turnI f t.goal, t.deeds.map (turnD f)⟩
def turnOk (t : TaskD) (f : Int) : Bool := taskOk t && stIn f && taskOk (turnT f.toNat t)
def taskTurned (t : TaskD) (f : Int) : TaskD := if turnOk t f = true then turnT f.toNat t else ⟨0, [], []⟩
theorem Blk.drew' {w : World} {g : Nat} {t : TypeId} {cs : Array Value} (h : Blk w g t cs) : Blk w.drew g t cs := h
theorem Only.then_below {F : List Nat} {a b c : World} (h : Only F a b) (k : Below a.heap.size b c) : Only F a c :=
  ⟨k.os.trans h.os, k.tape.trans h.tape, k.output.trans h.output, Nat.le_trans h.size k.size, fun i hi hn => (k.block i hi).trans (h.block i hi hn)⟩
theorem OwnT.zero (w : World) (lo : Nat) : OwnT w lo (.agg #[.int .i64 0, .slice none 0 0, .slice none 0 0]) ⟨0, [], []⟩ [] :=
  ⟨_, _, [], [], [], [], rfl, OwnI.none w lo, by simp, ⟨World.ownsRow_nil w lo _ 4, by simp, rfl, by simp [Value.ownBlock], by simp⟩, rfl, rfl⟩
theorem OwnT.of_push {w : World} {lo lo1 lo2 T : Nat} {gv dv : Value} {t : TaskD} {Fg : List Nat} {cells : List Value} {Fs : List (List Nat)} (hg : OwnI w lo1 gv t.goal Fg) (hgs : t.goal.length ≤ 1048576) (hd : PushDs w lo2 T dv t.deeds cells Fs) (hst : (Lit.int .i64 t.start).wf = true)
    (h1 : lo ≤ lo1) (h2 : lo ≤ lo2) (h3 : ∀ b ∈ Fg, b < lo2) : OwnT w lo (.agg #[.int .i64 t.start, gv, dv]) t (Fg ++ (dv.ownBlock.toList ++ Fs.flatten)) ∧ (Fg ++ (dv.ownBlock.toList ++ Fs.flatten)).Nodup := by
  refine ⟨⟨gv, dv, Fg, _, cells, Fs, rfl, hg.mono h1, hgs, hd.own.mono h2, rfl, hst⟩, ?_⟩
  rw [List.nodup_append]
  refine ⟨hg.nodup, hd.nodup, fun a ha b hb => ?_⟩
  have := h3 a ha
  have := (hd.own.lt b hb).1
  omega
theorem turn_or0 : ∀ f a b : Fin 32, (a.val - (a.val &&& f.val)) ||| (b.val &&& f.val) = turnOn f.val a.val b.val ∧ turnOn f.val a.val b.val < 64 := by decide +kernel

theorem turn_or (f a b : Nat) (hf : f < 32) (ha : a < 32) (hb : b < 32) : bits .or .i64 (bits .andNot .i64 (a : Int) (f : Int)) (bits .and .i64 (b : Int) (f : Int)) = ((turnOn f a b : Nat) : Int) := by
  have h1 : a &&& f ≤ a := Nat.and_le_left
  have h2 : b &&& f ≤ b := Nat.and_le_left
  rw [i64_andNot_nat _ _ (by omega) (by omega), i64_and_nat _ _ (by omega) (by omega), i64_or_nat _ _ (by omega) (by omega)]
  exact congrArg _ (turn_or0 ⟨f, hf⟩ ⟨a, ha⟩ ⟨b, hb⟩).1
end Go.Proofs.Ytdbgoekemffimaa
