/- Joined texts: Draw, Front, TDraw, DsPut, TDraw2, Fwd, NextW, StepsOn. -/
import Derived.Test.YtkmcengmglgdeaaGreatDoorSNum
import Derived.Test.YtkmcengmglgdeaaGreatDoorSBack
import Derived.Test.YtkmcengmglgdeaaGreatDoorSPerm
import Derived.Test.YtkmcengmglgdeaaGreatDoorSPlanForW
import Derived.Test.YtkmcengmglgdeaaGreatDoorSPlanForS

namespace Go.Proofs.YtkmcengmglgdeaaGreatDoor
open Go.ChangeShapes Go.WideShapes Go.ChangeAt Go.RowKit

def Rdr (w : World) (base g p : Nat) : Prop := base ≤ g ∧ p < 1099511627776 ∧ ∃ A n c xs, n ≤ 2000 ∧ RdI .u8 w base A n c xs ∧ Blk w g 125 #[.slice A n c, .int .i64 p]

theorem rdI_prefix {k : IntKind} {w : World} {B : Nat} {A : Option Addr} {n c : Nat} {xs : List Int} (h : RdI k w B A n c xs) (m : Nat) (hm : m ≤ n) : RdI k w B A m c (xs.take m) :=
 ⟨by rw [List.length_take, h.len]; omega, by have := h.cap; omega, h.capMax, fun x hx => h.wf x (List.mem_of_mem_take hx), fun hp => by
  obtain ⟨b, off, e, hb, hc⟩ := h.at_ (by omega); refine ⟨b, off, e, hb, fun i x hx => hc i x ?_⟩; rw [List.getElem?_take] at hx
  split at hx
  ·exact hx
  ·cases hx⟩

def InPick (n x : Int) : Prop := 0 ≤ x ∧ (1 ≤ n → x < n) ∧ (n < 1 → x = 0)

def SomeBool (e : Ending) : Prop := ∃ b : Bool, e = .returned (.bool b)
end Go.Proofs.YtkmcengmglgdeaaGreatDoor


namespace Go.Proofs.YtkmcengmglgdeaaGreatDoor
set_option linter.unusedVariables false
set_option linter.unusedSimpArgs false
open Go.ChangeShapes Go.WideShapes Go.ChangeAt Go.RowKit

section
variable {w W W' : World} {L L' : List HRes} {R R' : HRes}
theorem match_perm {W : World} {L L' : List HRes} (h : L.Perm L') : ∀ Fs : List (List Nat), Fs.length = L.length → (∀ (i : Nat) R F, L[i]? = some R → Fs[i]? = some F → R.at_ W F ∧ ∀ b ∈ F, w.heap.size ≤ b) →
  ∃ Gs : List (List Nat), Gs.Perm Fs ∧ Gs.length = L'.length ∧ ∀ (i : Nat) R F, L'[i]? = some R → Gs[i]? = some F → R.at_ W F ∧ ∀ b ∈ F, w.heap.size ≤ b := by
 induction h with
 | nil => intro Fs h1 h2; exact ⟨Fs, List.Perm.refl _, h1, h2⟩
 | cons x h ih =>
  intro Fs h1 h2
  match Fs, h1 with
  | F :: Fs, h1 =>
   obtain ⟨Gs, g1, g2, g3⟩ := ih Fs (by simpa using h1) fun i R G hR hG => h2 (i + 1) R G (by simpa using hR) (by simpa using hG)
   refine ⟨F :: Gs, g1.cons F, by simpa using g2, fun i R G hR hG => ?_⟩
   match i with
   | 0 => exact h2 0 R G hR hG
   | i + 1 => exact g3 i R G (by simpa using hR) (by simpa using hG)
 | swap x y l =>
  intro Fs h1 h2
  match Fs, h1 with
  | F :: G :: Fs, h1 =>
   refine ⟨G :: F :: Fs, List.Perm.swap .., by simpa using h1, fun i R H hR hH => ?_⟩
   match i with
   | 0 => exact h2 1 R H hR hH
   | 1 => exact h2 0 R H hR hH
   | i + 2 => exact h2 (i + 2) R H hR hH
 | trans _ _ ih1 ih2 =>
  intro Fs h1 h2; obtain ⟨Gs, g1, g2, g3⟩ := ih1 Fs h1 h2; obtain ⟨Hs, k1, k2, k3⟩ := ih2 Gs g2 g3; exact ⟨Hs, k1.trans g1, k2, k3⟩
theorem St.perm (h : St w W L) (p : L.Perm L') : St w W L' := by
 obtain ⟨Fs, h1, h2, h3⟩ := h.has; obtain ⟨Gs, g1, g2, g3⟩ := match_perm (w := w) p Fs h1 h2; exact ⟨h.below, Gs, g2, g3, (g1.flatten.nodup_iff).2 h3⟩
theorem St.tl (h : St w W (R :: L)) : St w W L := by
 obtain ⟨Fs, h1, h2, h3⟩ := h.has
 match Fs, h1, h2, h3 with
 | F :: Fs, h1, h2, h3 =>
  refine ⟨h.below, Fs, by simpa using h1, fun i R G hR hG => h2 (i + 1) R G (by simpa using hR) (by simpa using hG), ?_⟩; rw [List.flatten_cons, List.nodup_append] at h3; exact h3.2.1
theorem eraseIdx_perm {L : List HRes} : ∀ {i : Nat}, L[i]? = some R → L.Perm (R :: L.eraseIdx i) := by
 induction L with
 | nil => intro i h; simp at h
 | cons x l ih =>
  intro i h
  match i with
  | 0 => simp at h; subst h; exact List.Perm.refl _
  | i + 1 =>
   simp only [List.getElem?_cons_succ] at h; exact ((ih h).cons x).trans (List.Perm.swap ..)
theorem St.bring (h : St w W L) (i : Nat) (hi : L[i]? = some R) : St w W (R :: L.eraseIdx i) := h.perm (eraseIdx_perm hi)
theorem St.rid (h : St w W L) (i : Nat) (hi : L[i]? = some R) : St w W (L.eraseIdx i) := (h.bring i hi).tl
theorem St.swap2 {R₁ R₂ : HRes} (h : St w W (R₁ :: R₂ :: L)) : St w W (R₂ :: R₁ :: L) := h.perm (List.Perm.swap ..)
theorem St.call1 (h : St w W (R :: L)) (k : St W W' [R']) : St w W' (R :: R' :: L) :=
 (h.call k).perm (((List.perm_append_comm (l₁ := R :: L) (l₂ := [R'])).trans (List.Perm.swap ..)))
theorem St.alloc1 (h : St w W (R :: L)) (cs : Array Value) (t : TypeId) : St w (W.alloc (.cells cs t)) (R :: rBlk W.heap.size t cs :: L) := h.call1 (St.new1 W cs t)
theorem Sn.all {M : Nat → Option HRes} (h : Sn w W M) (e : ∀ i, M i = L[i]?) : St w W L :=
 h.to_st (List.range L.length) List.nodup_range (by
  refine List.ext_getElem (by simp) fun i h1 h2 => ?_
  simp only [List.length_map, List.length_range] at h1; simp only [List.getElem_map, List.getElem_range]
  rw [e i, List.getElem?_eq_getElem h1])
end
def rRd (w0 : World) (g hi : Nat) : HRes where
 at_ W F := F = [g] ∧ ∃ p A n c xs, p ≤ hi ∧ n ≤ 2000 ∧ RdI .u8 w0 w0.heap.size A n c xs ∧ Blk W g 125 #[.slice A n c, .int .i64 (p : Nat)]
 keep W W' F h hk := by
  obtain ⟨e, p, A, n, c, xs, h1, h2, h3, h4⟩ := h; exact ⟨e, p, A, n, c, xs, h1, h2, h3, (hk g (by rw [e]; simp)).trans h4⟩
 lt W F h b hb := by
  obtain ⟨e, p, A, n, c, xs, h1, h2, h3, h4⟩ := h; rw [e] at hb; simp at hb; subst hb; exact h4.lt
 nd W F h := by rw [h.1]; simp
section
variable {w W W' : World} {L L' : List HRes}
end
end Go.Proofs.YtkmcengmglgdeaaGreatDoor


namespace Go.Proofs.YtkmcengmglgdeaaGreatDoor
set_option linter.unusedVariables false
set_option linter.unusedSimpArgs false
open Go.ChangeShapes Go.WideShapes Go.ChangeAt Go.RowKit

def Dig (xs : List Int) : Prop := ∀ x ∈ xs, 0 ≤ x ∧ x ≤ 9
theorem St.lit (w : World) (xs : List Int) (n : Nat) (e : n = xs.length) (hn : xs.length ≤ 1024) (hwf : ∀ x ∈ xs, (Lit.int .i64 x).wf = true) :
  St w (w.alloc (.cells (Go.Proofs.YtkmcengmglgdeaaGreatDoor.ints xs).toArray 3)) [rInts (.slice (some ⟨w.heap.size, 0, none⟩) n n) xs] :=
 (St.new1 w (Go.Proofs.YtkmcengmglgdeaaGreatDoor.ints xs).toArray 3).see fun F h _ => blk_ints (xs := xs) h (by unfold maxLen; omega) hwf e
end Go.Proofs.YtkmcengmglgdeaaGreatDoor


namespace Go.Proofs.YtkmcengmglgdeaaGreatDoor
set_option linter.unusedVariables false
set_option linter.unusedSimpArgs false
open Go.ChangeShapes Go.WideShapes Go.ChangeAt Go.RowKit

section
variable {w W W' : World} {L : List HRes}
end
end Go.Proofs.YtkmcengmglgdeaaGreatDoor


namespace Go.Proofs.YtkmcengmglgdeaaGreatDoor
set_option linter.unusedVariables false
set_option linter.unusedSimpArgs false
open Go.ChangeShapes Go.WideShapes Go.ChangeAt Go.RowKit
def up5 (i : Nat) : Nat := if i < 5 then i else i + 2
def dn6 (i : Nat) : Nat := if i = 0 then 0 else if i < 5 then i + 1 else if i = 5 then 1 else i - 1
def dn5 (i : Nat) : Nat := if i < 5 then i else i - 2
def DeedB (m : Int) (d : DeedD) : Prop := d.need.length ≤ 4 ∧ (-m ≤ d.on ∧ d.on ≤ m) ∧ (-m ≤ d.off ∧ d.off ≤ m) ∧ (-m ≤ d.flip ∧ d.flip ≤ m)
abbrev DeedSm (d : DeedD) : Prop := DeedB 200 d
theorem DeedB.mono {m m' : Int} {d : DeedD} (h : DeedB m d) (hm : m ≤ m') : DeedB m' d := by
 obtain ⟨h1, h2, h3, h4⟩ := h; exact ⟨h1, by omega, by omega, by omega⟩
def TaskSm (t : TaskD) : Prop := t.goal.length ≤ 6 ∧ t.deeds.length ≤ 7 ∧ (-1 ≤ t.start ∧ t.start ≤ 32) ∧ ∀ d ∈ t.deeds, DeedB 600 d
end Go.Proofs.YtkmcengmglgdeaaGreatDoor


namespace Go.Proofs.YtkmcengmglgdeaaGreatDoor
set_option linter.unusedVariables false
set_option linter.unusedSimpArgs false

def dstN (ds : List DeedD) (S : Nat → Bool) : Nat → Nat → Int
 | 0, s => if S s then 0 else -1
 | n + 1, s => if fwd ds S n s then dstN ds S n s else if fwdP ds (fwd ds S n) s then ((n + 1 : Nat) : Int) else -1
def dstV (ds : List DeedD) (S : Nat → Bool) (s : Nat) : Int := dstN ds S 32 s
def ffixedAt (ds : List DeedD) (S : Nat → Bool) (n : Nat) : Prop := ∀ s, s < 32 → fwdP ds (fwd ds S n) s = true → fwd ds S n s = true
section
variable {ds : List DeedD} {S : Nat → Bool}
theorem fwdP_congr {T : Nat → Bool} {s : Nat} (h : ∀ s', s' < 32 → S s' = T s') : fwdP ds S s = fwdP ds T s := by
 rw [Bool.eq_iff_iff, fwdP_iff, fwdP_iff]
 constructor
 ·rintro ⟨s', h1, h2, h3⟩; exact ⟨s', h1, by rw [← h s' h1]; exact h2, h3⟩
 ·rintro ⟨s', h1, h2, h3⟩; exact ⟨s', h1, by rw [h s' h1]; exact h2, h3⟩
theorem fwd_succ {n s : Nat} (h : fwd ds S n s = true) : fwd ds S (n + 1) s = true := by simp [fwd, h]
theorem ffixed_fwd {n : Nat} (h : ffixedAt ds S n) (m : Nat) : ∀ s, s < 32 → fwd ds S (n + m) s = fwd ds S n s := by
 induction m with
 | zero => intro s _; rfl
 | succ m ih =>
  intro s hs; rw [← Nat.add_assoc]; simp only [fwd]; rw [ih s hs, fwdP_congr ih]
  cases hb : fwdP ds (fwd ds S n) s with
  | false => simp
  | true => rw [h s hs hb]; rfl
theorem cnt_growF {n : Nat} (h : ¬ ffixedAt ds S n) : cnt (fwd ds S n) 32 < cnt (fwd ds S (n + 1)) 32 := by
 unfold ffixedAt at h
 simp only [Classical.not_forall] at h; obtain ⟨s, hs, hb, hl⟩ := h; exact cnt_lt (fun k _ => fwd_succ) hs (by simpa using hl) (by simp [fwd, hb])
end
end Go.Proofs.YtkmcengmglgdeaaGreatDoor


namespace Go.Proofs.YtkmcengmglgdeaaGreatDoor
set_option linter.unusedVariables false
set_option linter.unusedSimpArgs false
open Go.ChangeShapes Go.WideShapes Go.ChangeAt Go.RowKit

def hitF (d : DeedD) (S m s : Nat) : Bool := (List.range m).any fun s' => bit S s' == 1 && deedDo d s' == some s
def partF (ds : List DeedD) (d : DeedD) (S m : Nat) (s : Nat) : Bool := fwdP ds (setP S) s || hitF d S m s
theorem fwdP_nil (S : Nat → Bool) (s : Nat) : fwdP [] S s = false := by simp [fwdP]
theorem partF_zero (ds : List DeedD) (d : DeedD) (S : Nat) : mset (partF ds d S 0) 32 = mset (fwdP ds (setP S)) 32 := mset_congr fun k _ => by simp [partF, hitF]
theorem hitF_succ (d : DeedD) (S m s : Nat) : hitF d S (m + 1) s = (hitF d S m s || (bit S m == 1 && deedDo d m == some s)) := by
 unfold hitF; rw [List.range_succ, List.any_append]; simp
theorem any_or {α : Type} (l : List α) (p q : α → Bool) : (l.any fun a => p a || q a) = (l.any p || l.any q) := by
 induction l with
 | nil => rfl
 | cons a l ih => simp only [List.any_cons, ih]; cases p a <;> cases q a <;> simp
theorem partF_all (ds : List DeedD) (d : DeedD) (S k : Nat) (h : ds[k]? = some d) : mset (partF (ds.take k) d S 32) 32 = mset (fwdP (ds.take (k + 1)) (setP S)) 32 := mset_congr fun s hs => by
 rw [take_succ' h]
 unfold partF hitF fwdP setP
 simp only [List.any_append, List.any_cons, List.any_nil, Bool.or_false, Bool.and_or_distrib_left]; rw [any_or]
theorem partF_no (ds : List DeedD) (d : DeedD) (S m : Nat) (h : bit S m = 1 → ∀ s, deedDo d m = some s → False) : mset (partF ds d S (m + 1)) 32 = mset (partF ds d S m) 32 := mset_congr fun s hs => by
 unfold partF
 rw [hitF_succ]
 have : (bit S m == 1 && deedDo d m == some s) = false := by
  rw [Bool.eq_false_iff]; intro hh; simp only [Bool.and_eq_true, beq_iff_eq] at hh; exact h hh.1 s hh.2
 rw [this, Bool.or_false]
theorem partF_yes (ds : List DeedD) (d : DeedD) (S m q : Nat) (h : deedDo d m = some q) (hb : bit S m = 1) : ∀ j, j < 32 → partF ds d S (m + 1) j = (partF ds d S m j || decide (q = j)) := fun j hj => by
 unfold partF
 rw [hitF_succ, h, hb, Bool.or_assoc]
 congr 1
set_option maxRecDepth 100000 in
theorem nextStates_any (A : Option Addr) (n c : Nat) (ds : List DeedD) (S : Nat) (w : World) (h : RdRow w w.heap.size 32 A n c (ints (behL ds))) (hn : ds.length = n) (hd : ∀ d ∈ ds, deedOk d = true) (hn6 : n ≤ 6) (hS : S < 4294967296) :
  Calls Tryz.prog 193 #[.slice A n c, .int .i64 S] w fun e w' => e = .returned (.int .i64 (mset (fwdP ds (setP S)) 32 : Nat)) ∧ Below w.heap.size w w' := by
 have HR := Lib.hid h; have HL := Lib.hid hn; have HDOK := Lib.hid hd; clear h hn hd; go_enter Tryz.func193, Tryz.ntmps193; go_wp2
 go_loopw [12, 5] (fun i sv wr => ∃ k M : Nat, k ≤ n ∧ i = .int .i64 k ∧ sv = .int .i64 M ∧ Hid (M = mset (fwdP (ds.take k) (setP S)) 32) ∧ Below w.heap.size w wr) (fun i _ _ => n - (intOf i).toNat)
 case atStart => exact ⟨0, 0, by omega, rfl, rfl, Lib.hid (mset_zero.2 fun s _ => fwdP_nil _ s).symm, Below.refl _ _⟩
 case round =>
  obtain ⟨k, M, hk, rfl, rfl, HM, hbel⟩ := hrel; have HB := Lib.hid hbel; clear hbel
  by_cases hlt : k < n
  ·obtain ⟨b, off, d, rfl, hb, hdk, hrow⟩ := beh_row HR.out HL.out hlt; have HLD : Hid (∀ j v, (rowOf d)[j]? = some v → wr.cell? ⟨b, off + k * 32 + j, none⟩ = some v) := Lib.hid fun j v hv => (bcells HB.out b _ hb).trans (hrow j v hv)
   have HDK := Lib.hid hdk; clear hrow hdk
   go_wp2_with (first
    | (refine wpList_load_arr 108 (.tmp 14) rfl rfl 3 32 undBeh b (off + k * 32) (rowOf d) rfl (by rw [rowOf_len]; exact infoBeh) HLD.out ?_)
    | (refine wpList_store_arr 108 (.tmp 7) (.tmp 15) rfl rfl _ (rowOf d) rfl rfl (by rw [rowOf_len]; exact infoBeh) (by rw [rowOf_len]; rfl) (by simp [rowOf, Value.oneCell']) ?_)
    | (refine wpList_load_arr 108 (.tmp 7) rfl rfl 3 32 undBeh wr.heap.size 0 (rowOf d) rfl (by rw [rowOf_len]; exact infoBeh) (by simp) ?_))
   have HM0 : Hid (M = mset (partF (ds.take k) d S 0) 32) := Lib.hid (HM.out.trans (partF_zero _ _ _).symm); have HDO := Lib.hid (HDOK.out d (List.mem_of_getElem? HDK.out)); have HB1 : Hid (Below w.heap.size w (wr.alloc (.cells (rowOf d).toArray 108))) := Lib.hid (HB.out.alloc HB.out.size _); have HRO := Lib.hid (rowOf_at d); have HLEN := Lib.hid (rowOf_len d)
   generalize rowOf d = R at HRO HLEN HB1 ⊢
   clear HLD HM
   go_loopw [17, 5] (fun i sv wr => ∃ m M : Nat, m ≤ 32 ∧ i = .int .i64 m ∧ sv = .int .i64 M ∧ Hid (M = mset (partF (ds.take k) d S m) 32) ∧ Below w.heap.size w wr) (fun i _ _ => 32 - (intOf i).toNat)
   case atStart => exact ⟨0, M, by omega, rfl, rfl, HM0, HB1.out⟩
   case round =>
    clear HM0 HB1 HB; obtain ⟨m, M1, hm32, rfl, rfl, HM, hbel⟩ := hrel; have HB := Lib.hid hbel; clear hbel
    by_cases hm : m < 32
    ·obtain ⟨o, ho⟩ : ∃ o, deedDo d m = o := ⟨_, rfl⟩; have hix := HRO.out m hm; rw [ho] at hix; have HIX := fun w => run_index_arr (P := Tryz.prog) (w := w) (xs := R) (k := m) (v := .int .i64 (opt o)) undBeh hix HLEN.out infoInt Tryz.underlying3
     have HO := Lib.hid ho; clear ho
     cases o with
     | none =>
      have HM2 : Hid (M1 = mset (partF (ds.take k) d S (m + 1)) 32) := Lib.hid (HM.out.trans (partF_no _ d S m (by rw [HO.out]; exact fun _ _ h => by cases h)).symm); simp only [opt] at HIX; go_wp2
      go_roundw
      case rel => exact ⟨m + 1, M1, by omega, by go_num, rfl, HM2, HB.out⟩
      case measure => simp [intOf]; omega
     | some q =>
      have hq := deedDo_lt d m q HDO.out hm HO.out; have hbit := and_one S m (by omega); simp only [opt] at HIX
      by_cases hs1 : bit S m = 1
      ·rw [hs1] at hbit; have hpw := wrap_pow q (by omega); have hor := or_member hq HM.out (partF_yes (ds.take k) d S m q HO.out hs1); clear hs1; go_wp2
       go_roundw
       case rel => exact ⟨m + 1, _, by omega, by go_num, rfl, Lib.hid rfl, HB.out⟩
       case measure => simp [intOf]; omega
      ·have hs0 : bit S m = 0 := by have := bit_lt S m; omega
       rw [hs0] at hbit; have HM2 : Hid (M1 = mset (partF (ds.take k) d S (m + 1)) 32) := Lib.hid (HM.out.trans (partF_no _ d S m (fun h _ _ => absurd (hs0.symm.trans h) (by decide))).symm); clear hs1 hs0; go_wp2
       go_roundw
       case rel => exact ⟨m + 1, M1, by omega, by go_num, rfl, HM2, HB.out⟩
       case measure => simp [intOf]; omega
    ·have HM2 : Hid (M1 = mset (fwdP (ds.take (k + 1)) (setP S)) 32) := Lib.hid (by rw [HM.out, show m = 32 by omega]; exact partF_all ds d S k HDK.out); go_wp2
     go_roundw
     case rel => exact ⟨k + 1, M1, by omega, by go_num, rfl, HM2, HB.out⟩
     case measure => simp [intOf]; omega
  ·have HF : Hid (M = mset (fwdP ds (setP S)) 32) := Lib.hid (by
    rw [HM.out, List.take_of_length_le (by rw [HL.out]; omega)])
   go_wp2; go_ret; exact ⟨ret_int (by rw [HF.out]), HB.out⟩
end Go.Proofs.YtkmcengmglgdeaaGreatDoor


namespace Go.Proofs.YtkmcengmglgdeaaGreatDoor
set_option linter.unusedVariables false
set_option linter.unusedSimpArgs false
open Go.ChangeShapes Go.WideShapes Go.ChangeAt Go.RowKit

def only (s0 : Nat) : Nat → Bool := fun s => decide (s0 = s)
theorem mset_only {s0 : Nat} (h : s0 < 32) : mset (only s0) 32 = 2 ^ s0 := by
 have := mset_or_bit (fun _ => false) 32 s0 h
 rw [show mset (fun _ => false) 32 = 0 from mset_zero.2 fun _ _ => rfl, Nat.zero_or] at this; rw [this]; exact mset_congr fun k _ => by simp [only]
def distL (ds : List DeedD) (p : Nat → Bool) : List Int := (List.range 32).map (dstV ds p)
theorem fwd_set {ds : List DeedD} (p : Nat → Bool) : mset (fwdP ds (setP (mset p 32))) 32 = mset (fwdP ds p) 32 := mset_congr fun s hs => fwdP_congr (setP_mset p)
def freshF (ds : List DeedD) (p : Nat → Bool) (m : Nat) : Nat → Bool := fun s => fwdP ds (fwd ds p m) s && !fwd ds p m s
end Go.Proofs.YtkmcengmglgdeaaGreatDoor
