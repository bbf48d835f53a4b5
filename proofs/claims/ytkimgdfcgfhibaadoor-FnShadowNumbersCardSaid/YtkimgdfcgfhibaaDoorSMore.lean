/- Joined texts: More, Steps, PlanForW. -/
import Derived.Test.YtkimgdfcgfhibaaDoorSPush
import Derived.Test.YtkimgdfcgfhibaaDoorSBack
/- Rows of numbers that grow: append to a thing of the list. -/
namespace Go.Proofs.YtkimgdfcgfhibaaDoor
set_option linter.unusedVariables false
set_option linter.unusedSimpArgs false
open Go.ChangeShapes Go.WideShapes Go.ChangeAt Go.RowKit
/-- a fact that no tactic looks into (contradiction looks into Hid) -/
structure Bx (p : Prop) : Prop where
  out : p
theorem St.appI {w W W' : World} {L : List HRes} (h : St w W L) (i : Nat) {v v' : Value} {xs ys : List Int} {n : Nat} (hi : L[i]? = some (rInts v xs)) (hn : n = xs.length + ys.length) (hown : W'.ownsRow 0 3 1 v' n (Go.Proofs.YtkimgdfcgfhibaaDoor.ints xs ++ Go.Proofs.YtkimgdfcgfhibaaDoor.ints ys)) (hwf : ∀ y ∈ ys, (Lit.int .i64 y).wf = true)
    (hg : W.grownBy W' v.ownBlock) (hat : v'.ownBlock = v.ownBlock ∨ v'.ownBlock = some W.heap.size) : St w W' (L.set i (rInts v' (xs ++ ys))) :=
  h.mod i hi fun F h1 _ => ⟨v'.ownBlock.toList, ⟨by subst hn; rw [List.length_append, ints_append]; exact hown, fun x hx => (List.mem_append.1 hx).elim (h1.wf x) (hwf x), rfl⟩, fun b hb => by
    rcases hat with e | e
    · left; rw [h1.foot, ← e]; exact hb
    · right; rw [e] at hb; simp at hb; omega, by rw [h1.foot]; exact Only.of_grown hg⟩
theorem St.ownI {w W : World} {L : List HRes} (h : St w W L) (i : Nat) {v : Value} {xs : List Int} (hi : L[i]? = some (rInts v xs)) : W.ownsRow 0 3 1 v xs.length (Go.Proofs.YtkimgdfcgfhibaaDoor.ints xs) := by
  obtain ⟨F, h1⟩ := h.ints i hi
  exact own_mono h1.row (Nat.zero_le _)
theorem drop2_st {w W : World} {R : HRes} {L : List HRes} {M : Nat → Option HRes} (h : Sn w W M) (h0 : M 0 = some R) (h2 : ∀ i, M (i + 2) = L[i]?) : St w W (R :: L) :=
  h.to_st (0 :: List.range' 2 L.length) (by
    rw [List.nodup_cons]
    exact ⟨fun hm => by have := List.mem_range'_1.1 hm; omega, List.nodup_range'⟩) (by
    simp only [List.map_cons, h0, List.cons.injEq, true_and]
    refine List.ext_getElem (by simp) fun i h1 h3 => ?_
    simp only [List.length_map, List.length_range'] at h1
    simp only [List.getElem_map, List.getElem_range', Nat.one_mul]
    rw [Nat.add_comm, h2 i, List.getElem?_eq_getElem h1])
theorem St.pushD {w W W' : World} {L : List HRes} {v v' nv : Value} {ds : List DeedD} {d : DeedD} {n : Nat} (h : St w W (rDeeds v ds :: rInts nv d.need :: L))
    (hs : d.need.length ≤ 1048576) (hwf : (Lit.int .i64 d.on).wf = true ∧ (Lit.int .i64 d.off).wf = true ∧ (Lit.int .i64 d.flip).wf = true) (hsm : ds.length + 1 ≤ 1048576) (hn : n = ds.length + 1)
    {cells : List Value} (hrow : W.ownsRow 0 85 4 v ds.length cells) (hown : W'.ownsRow 0 85 4 v' n (cells ++ [nv, .int .i64 d.on, .int .i64 d.off, .int .i64 d.flip])) (hg : W.grownBy W' v.ownBlock) (hat : v'.ownBlock = v.ownBlock ∨ v'.ownBlock = some W.heap.size) : St w W' (rDeeds v' (ds ++ [d]) :: L) :=
  drop2_st ((Sn.of_st h).push 0 1 (by decide) rfl rfl hs hwf hsm hn hrow hown hg hat) rfl fun i => rfl
theorem St.rowD {w W : World} {L : List HRes} (h : St w W L) (i : Nat) {v : Value} {ds : List DeedD} (hi : L[i]? = some (rDeeds v ds)) : ∃ cells, W.ownsRow 0 85 4 v ds.length cells := by
  obtain ⟨F, h1, -⟩ := h.get i hi; exact OwnDs.ownRow h1
end Go.Proofs.YtkimgdfcgfhibaaDoor

/- stepsBack of the program: for each state the least number of deeds. -/
namespace Go.Proofs.YtkimgdfcgfhibaaDoor
set_option linter.unusedVariables false
set_option linter.unusedSimpArgs false
open Go.ChangeShapes Go.WideShapes Go.ChangeAt Go.RowKit

/-- the first k from y, the others from z -/
def mixF (y z : Nat → Int) (k : Nat) : List Int := (List.range 32).map fun i => if i < k then y i else z i
theorem mixF_len (y z : Nat → Int) (k : Nat) : (mixF y z k).length = 32 := by simp [mixF]
theorem mixF_at (y z : Nat → Int) (k j : Nat) (h : j < 32) : (mixF y z k)[j]? = some (if j < k then y j else z j) := by simp [mixF, h]
theorem mixF_here (y z : Nat → Int) (k : Nat) (h : k < 32) : (mixF y z k)[k]? = some (z k) := by rw [mixF_at y z k k h, if_neg (by omega)]
theorem mixF_set (y z : Nat → Int) (k : Nat) (x : Int) (hx : x = y k) : (mixF y z k).set k x = mixF y z (k + 1) := by
  subst hx
  apply List.ext_getElem?
  intro i
  rw [List.getElem?_set]
  unfold mixF
  simp only [List.getElem?_map, List.length_map, List.length_range]
  by_cases e : k = i
  · subst e
    rw [if_pos rfl]
    by_cases h : k < 32
    · rw [if_pos h, List.getElem?_range h]; simp
    · rw [if_neg h, List.getElem?_eq_none (by simp; omega)]; rfl
  · rw [if_neg e]
    by_cases h : i < 32
    · rw [List.getElem?_range h]; simp [show (i < k + 1) ↔ (i < k) by omega]
    · rw [List.getElem?_eq_none (by simp; omega)]; rfl
theorem mixF_same (y z : Nat → Int) (k : Nat) (h : y k = z k) : mixF y z (k + 1) = mixF y z k := by
  unfold mixF
  refine List.map_congr_left fun i _ => ?_
  by_cases e : i = k
  · subst e; simp [h]
  · simp [show (i < k + 1) ↔ (i < k) by omega]
theorem mixF_zero (y z : Nat → Int) : mixF y z 0 = (List.range 32).map z := by unfold mixF; simp
theorem mixF_all (y z : Nat → Int) : mixF y z 32 = (List.range 32).map y := by
  unfold mixF
  refine List.map_congr_left fun i hi => ?_
  simp [List.mem_range.1 hi]
/-- the least numbers of deeds -/
def stepsL (ds : List DeedD) (p : Nat → Bool) : List Int := (List.range 32).map (stpV ds p)
theorem setP_mset (p : Nat → Bool) : ∀ s, s < 32 → setP (mset p 32) s = p s := fun s hs => bit_mset1 p hs
theorem back_set {ds : List DeedD} (hd : ∀ d ∈ ds, deedOk d = true) (p : Nat → Bool) : mset (backP ds (setP (mset p 32))) 32 = mset (backP ds p) 32 := mset_congr fun s hs => backP_congr hd hs (setP_mset p)
/-- what is new -/
def freshP (ds : List DeedD) (p : Nat → Bool) (m : Nat) : Nat → Bool := fun s => backP ds (layer ds p m) s && !layer ds p m s
end Go.Proofs.YtkimgdfcgfhibaaDoor

/- PlanFor of the program. -/
namespace Go.Proofs.YtkimgdfcgfhibaaDoor
set_option linter.unusedVariables false
set_option linter.unusedSimpArgs false
open Go.ChangeShapes Go.WideShapes Go.ChangeAt Go.RowKit

theorem St.rdRow' {w W : World} {L : List HRes} (h : St w W L) (i : Nat) {e : TypeId} {size n c : Nat} {A : Option Addr} {cells : List Value} (hi : L[i]? = some (rRow e size (.slice A n c) n cells)) : RdRow W W.heap.size size A n c cells := by
  obtain ⟨A', c', hv, hr⟩ := h.rdRow i hi
  simp only [Value.slice.injEq, true_and] at hv
  obtain ⟨rfl, rfl⟩ := hv
  exact hr
theorem Sn.cellI {w W : World} {M : Nat → Option HRes} (h : Sn w W M) (i : Nat) {g n c : Nat} {xs : List Int} (hi : M i = some (rInts (.slice (some ⟨g, 0, none⟩) n c) xs)) (hn : xs.length = n) (k : Nat) (x : Int) (hx : xs[k]? = some x) : W.cell? ⟨g, k, none⟩ = some (.int .i64 x) ∧ W.frozen? ⟨g, k, none⟩ = false :=
  St.cellI (h.to_st [i] (by simp) (L := [rInts (.slice (some ⟨g, 0, none⟩) n c) xs]) (by simp only [List.map, hi])) 0 rfl hn k x hx
/-- the value that is looked for, one step nearer -/
def near (ds : List DeedD) (p : Nat → Bool) (m : Nat) : Nat → Bool := fun s' => stpV ds p s' == (m : Int)
end Go.Proofs.YtkimgdfcgfhibaaDoor
