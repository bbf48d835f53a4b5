/- Joined texts: Perm, PermW, Named, IntS, Search. -/
import Derived.Test.YtkmcengmglgdeaaGreatDoorSSt
import Derived.Test.YtkmcengmglgdeaaGreatDoorSDeed
import Derived.Test.YtkmcengmglgdeaaGreatDoorSCopy
import Derived.Test.YtkmcengmglgdeaaGreatDoorSPush

namespace Go.Proofs.YtkmcengmglgdeaaGreatDoor
set_option linter.unusedVariables false
set_option linter.unusedSimpArgs false
set_option maxRecDepth 100000
set_option maxHeartbeats 8000000
def permOk (p : List Int) : Bool := decide (1 ≤ p.length ∧ p.length ≤ 5) && (p.all (fun x => decide (0 ≤ x ∧ x < p.length)) && decide p.Nodup)
def seenP (p : List Int) : Nat → Bool := fun j => decide ((j : Int) ∈ p)
def nameP (s : Nat) (p : List Int) (m : Nat) : Nat → Bool := fun j => (List.range m).any fun k => bit s k == 1 && p[k]? == some (j : Int)
def setN (p : List Int) (s : Nat) : Nat := mset (nameP s p 5) 5
def stepN (p : List Int) (x : Int) : Int := if x < 5 then p.getD x.toNat 0 else x
def codeN (p xs : List Int) : List Int := xs.map (stepN p)
def midN (p xs : List Int) (k : Nat) : List Int := (xs.take k).map (stepN p) ++ xs.drop k
def deedN (p : List Int) (d : DeedD) : DeedD := ⟨codeN p d.need, setN p d.on.toNat, setN p d.off.toNat, setN p d.flip.toNat⟩
def taskNamed (t : TaskD) (p : List Int) : TaskD := if taskOk t = true ∧ permOk p = true ∧ p.length = 5 then ⟨setN p t.start.toNat, codeN p t.goal, t.deeds.map (deedN p)⟩ else ⟨0, [], []⟩
open Go.ChangeShapes Go.WideShapes Go.ChangeAt Go.RowKit
theorem l1Has_any (A : Option Addr) (n c : Nat) (xs : List Int) (x : Int) (w : World) (h : RdI .i64 w w.heap.size A n c xs) :
  Calls Tryz.prog 124 #[.slice A n c, .int .i64 x] w fun e w' => e = .returned (.bool (decide (x ∈ xs))) ∧ w = w' := by
 have hc := h.cap; have hm := h.capMax
 unfold maxLen at hm
 have HL := Lib.hid h.len; go_enter Tryz.func124, Tryz.ntmps124; go_wp2
 go_loop [5] (fun i => ∃ k : Nat, k ≤ n ∧ i = .int .i64 k ∧ Hid (x ∉ xs.take k)) (fun i => n - (intOf i).toNat)
 case atStart => exact ⟨0, by omega, rfl, Lib.hid (by simp)⟩
 case round =>
  obtain ⟨k, hk, rfl, hno⟩ := hrel
  by_cases hlt : k < n
  ·obtain ⟨b, off, y, rfl, hb, hx, hw, hc⟩ := h.get hlt; have HX := Lib.hid hx; clear hx
   by_cases he : y = x
   ·have HM := Lib.hid (List.mem_of_getElem? HX.out); subst he; go_wp2; go_ret; exact ⟨ret_bool (decide_eq_true HM.out).symm, rfl⟩
   ·have hne : (y == x) = false := by simpa using he
    have HN : Hid (x ∉ xs.take (k + 1)) := Lib.hid (by
     rw [take_succ' HX.out, List.mem_append]; rintro (h | h)
     ·exact hno.out h
     ·exact he (List.mem_singleton.1 h).symm)
    clear he; go_wp2
    go_round
    case rel => exact ⟨k + 1, by omega, by go_num, HN⟩
    case measure => simp [intOf]; omega
  ·have hkn : k = n := by omega
   have HF : Hid (x ∉ xs) := Lib.hid (by have := hno.out; rw [hkn, ← HL.out, List.take_length] at this; exact this); clear hkn; go_wp2; go_ret; exact ⟨ret_bool (decide_eq_false HF.out).symm, rfl⟩
section
variable {w W W' : World} {L : List HRes}
theorem ints_set (xs : List Int) (k : Nat) (x : Int) : (ints xs).set k (.int .i64 x) = ints (xs.set k x) := by simp [ints, List.map_set]
theorem St.storeI (h : St w W L) (i : Nat) {g n c : Nat} {xs : List Int} (hi : L[i]? = some (rInts (.slice (some ⟨g, 0, none⟩) n c) xs)) (hn : xs.length = n) (k : Nat) (x : Int) (hw : (Lit.int .i64 x).wf = true) :
  St w (W.setCell ⟨g, k, none⟩ (.int .i64 x)) (L.set i (rInts (.slice (some ⟨g, 0, none⟩) n c) (xs.set k x))) :=
 h.mod i hi fun F h1 _ => ⟨F, ⟨by
  have := (World.ownsRow.stored (hn ▸ h1.row : W.ownsRow 0 3 1 (.slice (some ⟨g, 0, none⟩) n c) n (Go.Proofs.YtkmcengmglgdeaaGreatDoor.ints xs)) k (.int .i64 x)).1
  rw [ints_set] at this
  rw [List.length_set, hn]; exact this, fun y hy => by
   rcases List.mem_or_eq_of_mem_set hy with e | e
   ·exact h1.wf y e
   ·subst e; exact hw, h1.foot⟩, fun b hb => .inl hb, (Only.refl F W).set (by rw [h1.foot]; simp [Value.ownBlock]) _⟩
theorem St.formI (h : St w W L) (i : Nat) {v : Value} {xs : List Int} (hi : L[i]? = some (rInts v xs)) {n : Nat} (hn : xs.length = n) (h0 : 0 < n) : ∃ g c, v = .slice (some ⟨g, 0, none⟩) n c := by
 obtain ⟨F, h1, -⟩ := h.get i hi; subst hn
 rcases h1.row.2 with ⟨_, h2⟩ | ⟨g, cap, cur, hv, _⟩
 ·omega
 ·exact ⟨g, cap, hv⟩
theorem St.cellI (h : St w W L) (i : Nat) {g n c : Nat} {xs : List Int} (hi : L[i]? = some (rInts (.slice (some ⟨g, 0, none⟩) n c) xs)) (hn : xs.length = n) (k : Nat) (x : Int) (hx : xs[k]? = some x) : W.cell? ⟨g, k, none⟩ = some (.int .i64 x) ∧ W.frozen? ⟨g, k, none⟩ = false := by
 obtain ⟨F, h1, -⟩ := h.get i hi; have hr : W.ownsRow 0 3 1 (.slice (some ⟨g, 0, none⟩) n c) n (Go.Proofs.YtkmcengmglgdeaaGreatDoor.ints xs) := hn ▸ h1.row; refine ⟨?_, hr.frozenAt k⟩; have hk := (List.getElem?_eq_some_iff.1 hx).1; rw [hr.cellAt k (by omega)]
 simp [Go.Proofs.YtkmcengmglgdeaaGreatDoor.ints, hx]
end
theorem St.rdI' {w W : World} {L : List HRes} (h : St w W L) (k : Nat) {A : Option Addr} {n c : Nat} {xs : List Int} (hk : L[k]? = some (rInts (.slice A n c) xs)) : RdI .i64 W W.heap.size A n c xs := by
 obtain ⟨A', c', e, hr⟩ := h.rdI k hk; simp only [Value.slice.injEq] at e; obtain ⟨rfl, rfl, rfl⟩ := e; exact hr
theorem Sn.rdI' {w W : World} {M : Nat → Option HRes} (h : Sn w W M) (k : Nat) {A : Option Addr} {n c : Nat} {xs : List Int} (hk : M k = some (rInts (.slice A n c) xs)) : RdI .i64 W W.heap.size A n c xs := by
 obtain ⟨A', c', e, hr⟩ := h.rdI k hk; simp only [Value.slice.injEq] at e; obtain ⟨rfl, rfl, rfl⟩ := e; exact hr
def backP (ds : List DeedD) (S : Nat → Bool) (s : Nat) : Bool := ds.any fun d => (deedDo d s).any S
def layer (ds : List DeedD) (S : Nat → Bool) : Nat → Nat → Bool
 | 0, s => S s
 | n + 1, s => layer ds S n s || backP ds (layer ds S n) s
def stpN (ds : List DeedD) (S : Nat → Bool) : Nat → Nat → Int
 | 0, s => if S s then 0 else -1
 | n + 1, s => if layer ds S n s then stpN ds S n s else if backP ds (layer ds S n) s then ((n + 1 : Nat) : Int) else -1
def stpV (ds : List DeedD) (S : Nat → Bool) (s : Nat) : Int := stpN ds S 32 s
def cnt (p : Nat → Bool) (n : Nat) : Nat := (List.range n).countP p
def fixedAt (ds : List DeedD) (S : Nat → Bool) (n : Nat) : Prop := ∀ s, s < 32 → backP ds (layer ds S n) s = true → layer ds S n s = true
section
variable {ds : List DeedD} {S : Nat → Bool}
theorem backP_iff {s : Nat} : backP ds S s = true ↔ ∃ d ∈ ds, ∃ s', deedDo d s = some s' ∧ S s' = true := by
 unfold backP
 rw [List.any_eq_true]
 constructor
 ·rintro ⟨d, hd, h⟩
  cases e : deedDo d s with
  | none => rw [e] at h; cases h
  | some s' => rw [e] at h; exact ⟨d, hd, s', e, h⟩
 ·rintro ⟨d, hd, s', e, h⟩; exact ⟨d, hd, by rw [e]; exact h⟩
theorem backP_mono {T : Nat → Bool} {s : Nat} (h : ∀ s', S s' = true → T s' = true) (k : backP ds S s = true) : backP ds T s = true := by
 obtain ⟨d, hd, s', e, hs⟩ := backP_iff.1 k; exact backP_iff.2 ⟨d, hd, s', e, h s' hs⟩
theorem backP_congr {T : Nat → Bool} {s : Nat} (hd : ∀ d ∈ ds, deedOk d = true) (hs : s < 32) (h : ∀ s', s' < 32 → S s' = T s') : backP ds S s = backP ds T s := by
 have key : ∀ S T : Nat → Bool, (∀ s', s' < 32 → S s' = T s') → backP ds S s = true → backP ds T s = true := fun S T h k => by
  obtain ⟨d, hm, s', e, hs'⟩ := backP_iff.1 k; exact backP_iff.2 ⟨d, hm, s', e, by rw [← h s' (deedDo_lt d s s' (hd d hm) hs e)]; exact hs'⟩
 rw [Bool.eq_iff_iff]; exact ⟨key S T h, key T S fun s' hs' => (h s' hs').symm⟩
theorem layer_succ {n s : Nat} (h : layer ds S n s = true) : layer ds S (n + 1) s = true := by simp [layer, h]
theorem layer_mono {m n s : Nat} (hmn : m ≤ n) (h : layer ds S m s = true) : layer ds S n s = true := by
 induction n with
 | zero => have : m = 0 := by omega
           subst this; exact h
 | succ n ih =>
  rcases Nat.lt_or_ge m (n + 1) with h1 | h1
  ·exact layer_succ (ih (by omega))
  ·have : m = n + 1 := by omega
   subst this; exact h
theorem stpN_neg {n s : Nat} : layer ds S n s = false → stpN ds S n s = -1 := by
 cases n with
 | zero => intro h; simp only [layer] at h; simp [stpN, h]
 | succ n =>
  intro h; simp only [layer, Bool.or_eq_false_iff] at h
  simp [stpN, h.1, h.2]
theorem stpN_at {n s : Nat} (h : layer ds S n s = true) : ∃ k, k ≤ n ∧ stpN ds S n s = (k : Int) ∧ layer ds S k s = true ∧ ∀ m, m < k → layer ds S m s = false := by
 induction n with
 | zero => exact ⟨0, Nat.le_refl _, by simp only [layer] at h; simp [stpN, h], h, fun m hm => absurd hm (by omega)⟩
 | succ n ih =>
  cases hn : layer ds S n s with
  | true =>
   obtain ⟨k, h1, h2, h3⟩ := ih hn; exact ⟨k, by omega, by simp [stpN, hn, h2], h3⟩
  | false =>
   have hb : backP ds (layer ds S n) s = true := by simpa [layer, hn] using h
   refine ⟨n + 1, Nat.le_refl _, by simp [stpN, hn, hb], h, fun m hm => ?_⟩
   cases e : layer ds S m s with
   | false => rfl
   | true => rw [layer_mono (by omega) e] at hn; cases hn
theorem stpN_nonneg {n s : Nat} : (0 ≤ stpN ds S n s) ↔ layer ds S n s = true := by
 constructor
 ·intro h
  cases e : layer ds S n s with
  | true => rfl
  | false => rw [stpN_neg e] at h; omega
 ·intro h; obtain ⟨k, -, h2, -⟩ := stpN_at h
  omega
theorem stpN_le {n s : Nat} : -1 ≤ stpN ds S n s ∧ stpN ds S n s ≤ n := by
 cases e : layer ds S n s with
 | false => rw [stpN_neg e]; omega
 | true => obtain ⟨k, h1, h2, -⟩ := stpN_at e; omega
theorem stpN_eq {n k s : Nat} (hk : k ≤ n) (h1 : layer ds S k s = true) (h2 : ∀ m, m < k → layer ds S m s = false) : stpN ds S n s = (k : Int) := by
 obtain ⟨j, -, h4, h5, h6⟩ := stpN_at (layer_mono hk h1)
 rcases Nat.lt_trichotomy j k with h | h | h
 ·rw [h2 j h] at h5; cases h5
 ·rw [h4, h]
 ·rw [h6 k h] at h1; cases h1
theorem fixed_layer (hd : ∀ d ∈ ds, deedOk d = true) {n : Nat} (h : fixedAt ds S n) (m : Nat) : ∀ s, s < 32 → layer ds S (n + m) s = layer ds S n s := by
 induction m with
 | zero => intro s _; rfl
 | succ m ih =>
  intro s hs; rw [← Nat.add_assoc]; simp only [layer]; rw [ih s hs, backP_congr hd hs ih]
  cases hb : backP ds (layer ds S n) s with
  | false => simp
  | true => rw [h s hs hb]; rfl
theorem fixed_step (hd : ∀ d ∈ ds, deedOk d = true) {n : Nat} (h : fixedAt ds S n) {m : Nat} (hm : n ≤ m) {s : Nat} (hs : s < 32) : stpN ds S m s = stpN ds S n s := by
 have hl := fixed_layer hd h (m - n) s hs; rw [show n + (m - n) = m by omega] at hl
 cases e : layer ds S n s with
 | false => rw [stpN_neg e, stpN_neg (hl.trans e)]
 | true =>
  obtain ⟨k, h1, h2, h3, h4⟩ := stpN_at e; rw [h2]; exact stpN_eq (by omega) h3 h4
theorem cnt_le (p : Nat → Bool) (n : Nat) : cnt p n ≤ n := by
 unfold cnt
 have := List.countP_le_length (p := p) (l := List.range n)
 simpa using this
theorem cnt_lt {p q : Nat → Bool} {n : Nat} (h : ∀ k, k < n → p k = true → q k = true) {j : Nat} (hj : j < n) (hp : p j = false) (hq : q j = true) : cnt p n < cnt q n := by
 unfold cnt
 induction n with
 | zero => omega
 | succ n ih =>
  rw [List.range_succ, List.countP_append, List.countP_append]; have hmono : (List.range n).countP p ≤ (List.range n).countP q := List.countP_mono_left fun k hk => h k (by have := List.mem_range.1 hk; omega)
  by_cases e : j = n
  ·subst e
   simp [hp, hq]; omega
  ·have := ih (fun k hk => h k (by omega)) (by omega)
   have h2 : [n].countP p ≤ [n].countP q := List.countP_mono_left fun k hk => h k (by simp at hk; omega)
   omega
theorem cnt_pos {p : Nat → Bool} {n : Nat} : 0 < cnt p n ↔ ∃ k, k < n ∧ p k = true := by
 unfold cnt
 rw [List.countP_pos_iff]
 simp
theorem cnt_grow {n : Nat} (h : ¬ fixedAt ds S n) : cnt (layer ds S n) 32 < cnt (layer ds S (n + 1)) 32 := by
 unfold fixedAt at h
 simp only [Classical.not_forall] at h; obtain ⟨s, hs, hb, hl⟩ := h; exact cnt_lt (fun k _ => layer_succ) hs (by simpa using hl) (by simp [layer, hb])
theorem fixed_more (hd : ∀ d ∈ ds, deedOk d = true) {n : Nat} (h : fixedAt ds S n) {m : Nat} (hm : n ≤ m) : fixedAt ds S m := by
 intro s hs hb
 have e : ∀ s, s < 32 → layer ds S m s = layer ds S n s := fun s hs => by
  have := fixed_layer hd h (m - n) s hs
  rwa [show n + (m - n) = m by omega] at this
 rw [backP_congr hd hs e] at hb; rw [e s hs]; exact h s hs hb
theorem fixed31 (hd : ∀ d ∈ ds, deedOk d = true) : fixedAt ds S 31 := by
 have key : ∀ n, (∃ s, s < 32 ∧ S s = true) → fixedAt ds S n ∨ n + 1 ≤ cnt (layer ds S n) 32 := by
  intro n hne
  induction n with
  | zero => exact .inr (cnt_pos.2 hne)
  | succ n ih =>
   by_cases hf : fixedAt ds S n
   ·exact .inl (fixed_more hd hf (by omega))
   ·rcases ih with h | h
    ·exact absurd h hf
    ·have := cnt_grow hf; exact .inr (by omega)
 by_cases hne : ∃ s, s < 32 ∧ S s = true
 ·rcases key 31 hne with h | h
  ·exact h
  ·intro s hs _
   cases e : layer ds S 31 s with
   | true => rfl
   | false =>
    have := cnt_lt (p := layer ds S 31) (q := fun _ => true) (n := 32) (fun _ _ _ => rfl) hs e rfl
    have h2 := cnt_le (fun _ => true) 32
    omega
 ·have h0 : fixedAt ds S 0 := by
   intro s hs hb; obtain ⟨d, hm, s', e, h⟩ := backP_iff.1 hb; exact absurd ⟨s', deedDo_lt d s s' (hd d hm) hs e, h⟩ hne
  exact fixed_more hd h0 (by omega)
theorem stpV_31 (hd : ∀ d ∈ ds, deedOk d = true) {s : Nat} (hs : s < 32) : stpV ds S s = stpN ds S 31 s := fixed_step hd (fixed31 hd) (by omega) hs
theorem stpV_le (hd : ∀ d ∈ ds, deedOk d = true) {s : Nat} (hs : s < 32) : -1 ≤ stpV ds S s ∧ stpV ds S s ≤ 31 := by
 rw [stpV_31 hd hs]; exact stpN_le
theorem stpV_fixed (hd : ∀ d ∈ ds, deedOk d = true) {n s : Nat} (h : fixedAt ds S n) (hs : s < 32) : stpV ds S s = stpN ds S n s := by
 rcases Nat.lt_or_ge n 32 with hn | hn
 ·exact fixed_step hd h (by omega) hs
 ·exact (fixed_step hd (fixed_more hd (fixed31 hd) (show 31 ≤ 32 by omega)) hn hs).symm
theorem stpV_next (hd : ∀ d ∈ ds, deedOk d = true) {s k : Nat} (hs : s < 32) (h : stpV ds S s = ((k + 1 : Nat) : Int)) : ∃ d ∈ ds, ∃ s', deedDo d s = some s' ∧ s' < 32 ∧ stpV ds S s' = (k : Int) := by
 have hl : layer ds S 32 s = true := stpN_nonneg.1 (by have : stpN ds S 32 s = _ := h; omega); obtain ⟨j, h1, h2, h3, h4⟩ := stpN_at hl; have hj : j = k + 1 := by have : stpN ds S 32 s = _ := h; omega
 subst hj; have h5 := h4 k (by omega); simp only [layer, h5, Bool.false_or] at h3; obtain ⟨d, hm, s', e, h6⟩ := backP_iff.1 h3; refine ⟨d, hm, s', e, deedDo_lt d s s' (hd d hm) hs e, stpN_eq (by omega) h6 fun m hmk => ?_⟩
 cases e' : layer ds S m s' with
 | false => rfl
 | true =>
  have : layer ds S (m + 1) s = true := by simp [layer, backP_iff.2 ⟨d, hm, s', e, e'⟩]
  rw [layer_mono (by omega) this] at h5; cases h5
theorem stpV_zero {s : Nat} : stpV ds S s = 0 ↔ S s = true := by
 constructor
 ·intro h; have hl : layer ds S 32 s = true := stpN_nonneg.1 (by have : stpN ds S 32 s = _ := h; omega); obtain ⟨j, h1, h2, h3, h4⟩ := stpN_at hl; have hj : j = 0 := by have : stpN ds S 32 s = _ := h; omega
  subst hj; exact h3
 ·intro h; exact stpN_eq (k := 0) (by omega) h fun m hm => absurd hm (by omega)
end
def pick (f : Nat → Bool) (s : Nat) : List DeedD → Nat → Option (Nat × Nat)
 | [], _ => none
 | d :: ds, k => match deedDo d s with
  | some s' => if f s' then some (k, s') else pick f s ds (k + 1)
  | none => pick f s ds (k + 1)
theorem pick_some {f : Nat → Bool} {s : Nat} {ds : List DeedD} {k : Nat} (h : ∃ d ∈ ds, ∃ s', deedDo d s = some s' ∧ f s' = true) : ∃ j s', pick f s ds k = some (k + j, s') ∧ (ds[j]?).bind (deedDo · s) = some s' ∧ f s' = true ∧ j < ds.length := by
 induction ds generalizing k with
 | nil => obtain ⟨d, hd, -⟩ := h; cases hd
 | cons d ds ih =>
  have rest : (∃ d ∈ ds, ∃ s', deedDo d s = some s' ∧ f s' = true) → ∃ j s', pick f s ds (k + 1) = some (k + (j + 1), s') ∧ (ds[j]?).bind (deedDo · s) = some s' ∧ f s' = true ∧ j < ds.length := fun h' => by
   obtain ⟨j, s', h1, h2⟩ := ih (k := k + 1) h'; exact ⟨j, s', by rw [h1]; simp; omega, h2⟩
  cases e : deedDo d s with
  | none =>
   obtain ⟨x, hx, s', e', hf⟩ := h
   have hx' : x ∈ ds := by
    rcases List.mem_cons.1 hx with rfl | hx
    ·rw [e] at e'; cases e'
    ·exact hx
   obtain ⟨j, s'', h1, h2, h3, h4⟩ := rest ⟨x, hx', s', e', hf⟩; exact ⟨j + 1, s'', by simp only [pick, e]; exact h1, by simpa using h2, h3, by simpa using h4⟩
  | some s1 =>
   cases hf1 : f s1 with
   | true => exact ⟨0, s1, by simp [pick, e, hf1], by simp [e], hf1, by simp⟩
   | false =>
    obtain ⟨x, hx, s', e', hf⟩ := h
    have hx' : x ∈ ds := by
     rcases List.mem_cons.1 hx with rfl | hx
     ·rw [e] at e'; injection e' with e'; subst e'; rw [hf1] at hf; cases hf
     ·exact hx
    obtain ⟨j, s'', h1, h2, h3, h4⟩ := rest ⟨x, hx', s', e', hf⟩; exact ⟨j + 1, s'', by simp only [pick, e, hf1]; exact h1, by simpa using h2, h3, by simpa using h4⟩
def walkP (ds : List DeedD) (S : Nat → Bool) : Nat → Nat → List Int
 | 0, _ => []
 | n + 1, s => match pick (fun s' => stpV ds S s' == (n : Int)) s ds 0 with
  | some (k, s') => (k : Int) :: walkP ds S n s'
  | none => []
def planOf (ds : List DeedD) (S : Nat → Bool) (s : Nat) : Option (List Int) := if stpV ds S s < 0 then none else some (walkP ds S (stpV ds S s).toNat s)
def planFor (t : TaskD) : Option (List Int) := if taskOk t then planOf t.deeds (evalCode t.goal) t.start.toNat else none
theorem walkP_run (t : TaskD) (hd : ∀ d ∈ t.deeds, deedOk d = true) (S : Nat → Bool) (n : Nat) : ∀ s, s < 32 → stpV t.deeds S s = (n : Int) → (walkP t.deeds S n s).length = n ∧ ∃ s', runP t s (walkP t.deeds S n s) = some s' ∧ s' < 32 ∧ S s' = true := by
 induction n with
 | zero => intro s hs h; exact ⟨rfl, s, rfl, hs, stpV_zero.1 h⟩
 | succ n ih =>
  intro s hs h; obtain ⟨d, hm, s1, e, hs1, h1⟩ := stpV_next hd hs h; obtain ⟨j, s', h2, h3, h4, h5⟩ := pick_some (f := fun s' => stpV t.deeds S s' == (n : Int)) (s := s) (ds := t.deeds) (k := 0) ⟨d, hm, s1, e, by simpa using h1⟩; have hv : stpV t.deeds S s' = (n : Int) := by simpa using h4
  have hs' : s' < 32 := by
   obtain ⟨x, hx, h6⟩ := Option.bind_eq_some_iff.1 h3; exact deedDo_lt x s s' (hd x (List.mem_of_getElem? hx)) hs h6
  obtain ⟨k1, s2, k2, k3⟩ := ih s' hs' hv; rw [Nat.zero_add] at h2; simp only [walkP, h2]; refine ⟨by simp [k1], s2, ?_, k3⟩; simp only [runP, stepP]; rw [if_pos ⟨by omega, by omega⟩, Int.toNat_natCast, h3]; exact k2
theorem planFor_some {t : TaskD} {p : List Int} (h : planFor t = some p) : taskOk t = true ∧ (p.length : Int) = stpV t.deeds (evalCode t.goal) t.start.toNat ∧ p.length ≤ 31 ∧ ∃ s, runP t t.start.toNat p = some s ∧ s < 32 ∧ evalCode t.goal s = true := by
 unfold planFor at h
 split at h
 ·rename_i hok; obtain ⟨h1, h2, h3, h4⟩ := taskOk_parts t hok; have hs : t.start.toNat < 32 := by omega
  have hle := stpV_le (S := evalCode t.goal) h4 hs
  unfold planOf at h
  split at h
  ·cases h
  ·injection h with h
   obtain ⟨k1, k2⟩ := walkP_run t h4 (evalCode t.goal) (stpV t.deeds (evalCode t.goal) t.start.toNat).toNat t.start.toNat hs (by omega); rw [h] at k1 k2; exact ⟨hok, by omega, by omega, k2⟩
 ·cases h
end Go.Proofs.YtkmcengmglgdeaaGreatDoor
