/- Joined texts: Draw, Front, TDraw, DsPut, TDraw2, GraphP, Fwd. -/
import Derived.Test.YtkmcengmglgdeaaGreatDoorSNum
import Derived.Test.YtkmcengmglgdeaaGreatDoorSBack
import Derived.Test.YtkmcengmglgdeaaGreatDoorSPerm
import Derived.Test.YtkmcengmglgdeaaGreatDoorSPlanForW
import Derived.RegionTactic
import Derived.ChangeAlike
import Derived.Test.YtkmcengmglgdeaaGreatDoorSPlanForS

namespace Go.Proofs.YtkmcengmglgdeaaGreatDoor
set_option linter.unusedVariables false
set_option linter.unusedSimpArgs false
set_option maxRecDepth 100000
set_option maxHeartbeats 8000000
open Go.ChangeShapes Go.WideShapes Go.ChangeAt Go.RowKit
def Rdr (w : World) (base g p : Nat) : Prop := base ≤ g ∧ p < 1099511627776 ∧ ∃ A n c xs, n ≤ 2000 ∧ RdI .u8 w base A n c xs ∧ Blk w g 125 #[.slice A n c, .int .i64 p]
theorem rdI_prefix {k : IntKind} {w : World} {B : Nat} {A : Option Addr} {n c : Nat} {xs : List Int} (h : RdI k w B A n c xs) (m : Nat) (hm : m ≤ n) : RdI k w B A m c (xs.take m) :=
 ⟨by rw [List.length_take, h.len]; omega, by have := h.cap; omega, h.capMax, fun x hx => h.wf x (List.mem_of_mem_take hx), fun hp => by
  obtain ⟨b, off, e, hb, hc⟩ := h.at_ (by omega); refine ⟨b, off, e, hb, fun i x hx => hc i x ?_⟩; rw [List.getElem?_take] at hx
  split at hx
  ·exact hx
  ·cases hx⟩
def InPick (n x : Int) : Prop := 0 ≤ x ∧ (1 ≤ n → x < n) ∧ (n < 1 → x = 0)
def SomeBool (e : Ending) : Prop := ∃ b : Bool, e = .returned (.bool b)
section
variable {w W W' : World} {L L' : List HRes} {R R' : HRes}
theorem match_perm {W : World} {L L' : List HRes} (h : L.Perm L') : ∀ Fs : List (List Nat), Fs.length = L.length → (∀ (i : Nat) R F, L[i]? = some R → Fs[i]? = some F → R.at_ W F ∧ ∀ b ∈ F, w.heap.size ≤ b) →
  ∃ Gs : List (List Nat), Gs.Perm Fs ∧ Gs.length = L'.length ∧ ∀ (i : Nat) R F, L'[i]? = some R → Gs[i]? = some F → R.at_ W F ∧ ∀ b ∈ F, w.heap.size ≤ b := by
 induction h with
 | nil => intro Fs h1 h2; exact ⟨Fs, List.Perm.refl _, h1, h2⟩
 | cons x h ih =>
  intro Fs h1 h2
  match Fs, h1 with
  | F :: Fs, h1 =>
   obtain ⟨Gs, g1, g2, g3⟩ := ih Fs (by simpa using h1) fun i R G hR hG => h2 (i + 1) R G (by simpa using hR) (by simpa using hG)
   refine ⟨F :: Gs, g1.cons F, by simpa using g2, fun i R G hR hG => ?_⟩
   match i with
   | 0 => exact h2 0 R G hR hG
   | i + 1 => exact g3 i R G (by simpa using hR) (by simpa using hG)
 | swap x y l =>
  intro Fs h1 h2
  match Fs, h1 with
  | F :: G :: Fs, h1 =>
   refine ⟨G :: F :: Fs, List.Perm.swap .., by simpa using h1, fun i R H hR hH => ?_⟩
   match i with
   | 0 => exact h2 1 R H hR hH
   | 1 => exact h2 0 R H hR hH
   | i + 2 => exact h2 (i + 2) R H hR hH
 | trans _ _ ih1 ih2 =>
  intro Fs h1 h2; obtain ⟨Gs, g1, g2, g3⟩ := ih1 Fs h1 h2; obtain ⟨Hs, k1, k2, k3⟩ := ih2 Gs g2 g3; exact ⟨Hs, k1.trans g1, k2, k3⟩
theorem St.perm (h : St w W L) (p : L.Perm L') : St w W L' := by
 obtain ⟨Fs, h1, h2, h3⟩ := h.has; obtain ⟨Gs, g1, g2, g3⟩ := match_perm (w := w) p Fs h1 h2; exact ⟨h.below, Gs, g2, g3, (g1.flatten.nodup_iff).2 h3⟩
theorem St.tl (h : St w W (R :: L)) : St w W L := by
 obtain ⟨Fs, h1, h2, h3⟩ := h.has
 match Fs, h1, h2, h3 with
 | F :: Fs, h1, h2, h3 =>
  refine ⟨h.below, Fs, by simpa using h1, fun i R G hR hG => h2 (i + 1) R G (by simpa using hR) (by simpa using hG), ?_⟩; rw [List.flatten_cons, List.nodup_append] at h3; exact h3.2.1
theorem eraseIdx_perm {L : List HRes} : ∀ {i : Nat}, L[i]? = some R → L.Perm (R :: L.eraseIdx i) := by
 induction L with
 | nil => intro i h; simp at h
 | cons x l ih =>
  intro i h
  match i with
  | 0 => simp at h; subst h; exact List.Perm.refl _
  | i + 1 =>
   simp only [List.getElem?_cons_succ] at h; exact ((ih h).cons x).trans (List.Perm.swap ..)
theorem St.bring (h : St w W L) (i : Nat) (hi : L[i]? = some R) : St w W (R :: L.eraseIdx i) := h.perm (eraseIdx_perm hi)
theorem St.rid (h : St w W L) (i : Nat) (hi : L[i]? = some R) : St w W (L.eraseIdx i) := (h.bring i hi).tl
theorem St.swap2 {R₁ R₂ : HRes} (h : St w W (R₁ :: R₂ :: L)) : St w W (R₂ :: R₁ :: L) := h.perm (List.Perm.swap ..)
theorem St.call1 (h : St w W (R :: L)) (k : St W W' [R']) : St w W' (R :: R' :: L) :=
 (h.call k).perm (((List.perm_append_comm (l₁ := R :: L) (l₂ := [R'])).trans (List.Perm.swap ..)))
theorem St.alloc1 (h : St w W (R :: L)) (cs : Array Value) (t : TypeId) : St w (W.alloc (.cells cs t)) (R :: rBlk W.heap.size t cs :: L) := h.call1 (St.new1 W cs t)
theorem Sn.all {M : Nat → Option HRes} (h : Sn w W M) (e : ∀ i, M i = L[i]?) : St w W L :=
 h.to_st (List.range L.length) List.nodup_range (by
  refine List.ext_getElem (by simp) fun i h1 h2 => ?_
  simp only [List.length_map, List.length_range] at h1; simp only [List.getElem_map, List.getElem_range]
  rw [e i, List.getElem?_eq_getElem h1])
end
def rRd (w0 : World) (g hi : Nat) : HRes where
 at_ W F := F = [g] ∧ ∃ p A n c xs, p ≤ hi ∧ n ≤ 2000 ∧ RdI .u8 w0 w0.heap.size A n c xs ∧ Blk W g 125 #[.slice A n c, .int .i64 (p : Nat)]
 keep W W' F h hk := by
  obtain ⟨e, p, A, n, c, xs, h1, h2, h3, h4⟩ := h; exact ⟨e, p, A, n, c, xs, h1, h2, h3, (hk g (by rw [e]; simp)).trans h4⟩
 lt W F h b hb := by
  obtain ⟨e, p, A, n, c, xs, h1, h2, h3, h4⟩ := h; rw [e] at hb; simp at hb; subst hb; exact h4.lt
 nd W F h := by rw [h.1]; simp
section
variable {w W W' : World} {L L' : List HRes}
end
def Dig (xs : List Int) : Prop := ∀ x ∈ xs, 0 ≤ x ∧ x ≤ 9
theorem St.lit (w : World) (xs : List Int) (n : Nat) (e : n = xs.length) (hn : xs.length ≤ 1024) (hwf : ∀ x ∈ xs, (Lit.int .i64 x).wf = true) :
  St w (w.alloc (.cells (Go.Proofs.YtkmcengmglgdeaaGreatDoor.ints xs).toArray 3)) [rInts (.slice (some ⟨w.heap.size, 0, none⟩) n n) xs] :=
 (St.new1 w (Go.Proofs.YtkmcengmglgdeaaGreatDoor.ints xs).toArray 3).see fun F h _ => blk_ints (xs := xs) h (by unfold maxLen; omega) hwf e
section
variable {w W W' : World} {L : List HRes}
end
def up5 (i : Nat) : Nat := if i < 5 then i else i + 2
def dn6 (i : Nat) : Nat := if i = 0 then 0 else if i < 5 then i + 1 else if i = 5 then 1 else i - 1
def dn5 (i : Nat) : Nat := if i < 5 then i else i - 2
def DeedB (m : Int) (d : DeedD) : Prop := d.need.length ≤ 4 ∧ (-m ≤ d.on ∧ d.on ≤ m) ∧ (-m ≤ d.off ∧ d.off ≤ m) ∧ (-m ≤ d.flip ∧ d.flip ≤ m)
abbrev DeedSm (d : DeedD) : Prop := DeedB 200 d
theorem DeedB.mono {m m' : Int} {d : DeedD} (h : DeedB m d) (hm : m ≤ m') : DeedB m' d := by
 obtain ⟨h1, h2, h3, h4⟩ := h; exact ⟨h1, by omega, by omega, by omega⟩
def TaskSm (t : TaskD) : Prop := t.goal.length ≤ 6 ∧ t.deeds.length ≤ 7 ∧ (-1 ≤ t.start ∧ t.start ≤ 32) ∧ ∀ d ∈ t.deeds, DeedB 600 d
def cntF : Nat → Nat → Nat
 | 0, _ => 0
 | f + 1, n => if n = 0 then 0 else 1 + cntF f (n &&& (n - 1))
def popc (n : Nat) : Nat := cntF n n
theorem cntF_enough (f : Nat) : ∀ f' n, n ≤ f → n ≤ f' → cntF f n = cntF f' n := by
 induction f with
 | zero => intro f' n h _; obtain rfl : n = 0 := by omega
           cases f' <;> simp [cntF]
 | succ f ih =>
  intro f' n h h'
  by_cases hn : n = 0
  ·subst hn; cases f' <;> simp [cntF]
  ·cases f' with
   | zero => omega
   | succ f' =>
    have hle : n &&& (n - 1) ≤ n - 1 := Nat.and_le_right; rw [cntF, cntF, if_neg hn, if_neg hn, ih f' _ (by omega) (by omega)]
theorem popc_zero : popc 0 = 0 := rfl
theorem popc_step (n : Nat) (h : 0 < n) : popc n = 1 + popc (n &&& (n - 1)) := by
 unfold popc
 cases n with
 | zero => omega
 | succ m =>
  have hle : (m + 1) &&& (m + 1 - 1) ≤ m + 1 - 1 := Nat.and_le_right; rw [cntF, if_neg (by omega)]; rw [cntF_enough m _ _ (by omega) (Nat.le_refl _)]
theorem countBits_nat (n : Nat) (hn : n < 4611686018427387904) (w : World) :
  Calls Tryz.prog 138 #[.int .i64 n] w fun e w' => e = .returned (.int .i64 (popc n : Nat)) ∧ w = w' := by
 go_enter Tryz.func138, Tryz.ntmps138; go_wp2
 go_loop [0, 3] (fun s p => ∃ m k : Nat, m ≤ n ∧ k + popc m = popc n ∧ k + m ≤ n ∧ s = .int .i64 m ∧ p = .int .i64 k) (fun s _ => (intOf s).toNat)
 case atStart => exact ⟨n, 0, Nat.le_refl _, by omega, by omega, rfl, rfl⟩
 case round =>
  obtain ⟨m, k, hm, hk, hkm, rfl, rfl⟩ := hrel; have HK := Lib.hid hk; clear hk
  by_cases hz : 0 < m
  ·have hle : m &&& (m - 1) ≤ m - 1 := Nat.and_le_right; have hx := i64_and_nat m (m - 1) (by omega) (by omega); have hs : ((m - 1 : Nat) : Int) = (m : Int) - 1 := by omega
   rw [hs] at hx; have HS := Lib.hid (popc_step m hz)
   generalize m &&& (m - 1) = m' at *
   clear hs; have hne : ((m : Int) != 0) = true := by rw [bne_iff_ne]; omega
   go_wp2
   go_round
   case rel => exact ⟨m', k + 1, by omega, by have := HS.out; have := HK.out; omega, by omega, rfl, by go_num⟩
   case measure => simp [intOf]; omega
  ·obtain rfl : m = 0 := by omega
   go_wp2; go_ret; refine ⟨ret_int ?_, rfl⟩
   have := HK.out
   rw [popc_zero] at this
   show (k : Int) = _
   omega
def dstN (ds : List DeedD) (S : Nat → Bool) : Nat → Nat → Int
 | 0, s => if S s then 0 else -1
 | n + 1, s => if fwd ds S n s then dstN ds S n s else if fwdP ds (fwd ds S n) s then ((n + 1 : Nat) : Int) else -1
def dstV (ds : List DeedD) (S : Nat → Bool) (s : Nat) : Int := dstN ds S 32 s
def ffixedAt (ds : List DeedD) (S : Nat → Bool) (n : Nat) : Prop := ∀ s, s < 32 → fwdP ds (fwd ds S n) s = true → fwd ds S n s = true
section
variable {ds : List DeedD} {S : Nat → Bool}
theorem fwdP_congr {T : Nat → Bool} {s : Nat} (h : ∀ s', s' < 32 → S s' = T s') : fwdP ds S s = fwdP ds T s := by
 rw [Bool.eq_iff_iff, fwdP_iff, fwdP_iff]
 constructor
 ·rintro ⟨s', h1, h2, h3⟩; exact ⟨s', h1, by rw [← h s' h1]; exact h2, h3⟩
 ·rintro ⟨s', h1, h2, h3⟩; exact ⟨s', h1, by rw [h s' h1]; exact h2, h3⟩
theorem fwd_succ {n s : Nat} (h : fwd ds S n s = true) : fwd ds S (n + 1) s = true := by simp [fwd, h]
theorem ffixed_fwd {n : Nat} (h : ffixedAt ds S n) (m : Nat) : ∀ s, s < 32 → fwd ds S (n + m) s = fwd ds S n s := by
 induction m with
 | zero => intro s _; rfl
 | succ m ih =>
  intro s hs; rw [← Nat.add_assoc]; simp only [fwd]; rw [ih s hs, fwdP_congr ih]
  cases hb : fwdP ds (fwd ds S n) s with
  | false => simp
  | true => rw [h s hs hb]; rfl
theorem cnt_growF {n : Nat} (h : ¬ ffixedAt ds S n) : cnt (fwd ds S n) 32 < cnt (fwd ds S (n + 1)) 32 := by
 unfold ffixedAt at h
 simp only [Classical.not_forall] at h; obtain ⟨s, hs, hb, hl⟩ := h; exact cnt_lt (fun k _ => fwd_succ) hs (by simpa using hl) (by simp [fwd, hb])
end
end Go.Proofs.YtkmcengmglgdeaaGreatDoor
