/- Codes put together of parts: l9All, l9None of the reference, noneHolds of the program. -/
import Derived.Test.YtfgebdioffeliaaSApp
namespace Go.Proofs.Ytfgebdioffeliaa
open Go.ChangeShapes Go.WideShapes Go.ChangeAt Go.RowKit

def codeAll : List (List Int) → List Int
  | [] => [5]
  | x :: r => r.foldl (fun a y => a ++ y ++ [8]) x
theorem codeAll_snoc (xss : List (List Int)) (h : xss ≠ []) (y : List Int) : codeAll (xss ++ [y]) = codeAll xss ++ y ++ [8] := by
  cases xss with
  | nil => exact absurd rfl h
  | cons x r => simp [codeAll, List.foldl_append]
theorem codeAll_take (xss : List (List Int)) (k : Nat) (h : 1 ≤ k) (y : List Int) (hy : xss[k]? = some y) : codeAll (xss.take (k + 1)) = codeAll (xss.take k) ++ y ++ [8] := by
  obtain ⟨h1, h2⟩ := List.getElem?_eq_some_iff.1 hy
  rw [List.take_succ_eq_append_getElem h1, h2]
  refine codeAll_snoc _ ?_ _
  intro e
  have := congrArg List.length e
  rw [List.length_take, List.length_nil] at this
  omega
def nonePart (k : Nat) : List Int := [(k : Int), 7]
def noneParts (m : Nat) : List (List Int) := (List.range m).map nonePart
theorem noneParts_succ (m : Nat) : noneParts (m + 1) = noneParts m ++ [nonePart m] := by simp [noneParts, List.range_succ]
theorem noneParts_len (m : Nat) : (noneParts m).length = m := by simp [noneParts]
def noneI : Nat → List Int
  | 0 => []
  | m + 1 => if m = 0 then [0, 7] else noneI m ++ [(m : Int), 7] ++ [8]
theorem codeAll_none (m : Nat) (h : 0 < m) : codeAll (noneParts m) = noneI m := by
  induction m with
  | zero => omega
  | succ m ih =>
    rw [noneParts_succ]
    by_cases hm : m = 0
    · subst hm; rfl
    · rw [codeAll_snoc _ (by intro e; have := congrArg List.length e; simp [noneParts_len] at this; exact hm this), ih (by omega)]
      simp [noneI, hm, nonePart]
theorem noneI_len (m : Nat) : (noneI m).length ≤ 3 * m := by
  induction m with
  | zero => simp [noneI]
  | succ m ih => unfold noneI; split <;> simp <;> omega

theorem l9All_any (A : Option Addr) (n c : Nat) (xss : List (List Int)) (w : World) (h : RdP w w.heap.size A n c xss) (hs : ∀ xs ∈ xss, xs.length ≤ 64) (hn : n ≤ 1024) :
    Calls Try.prog 52 #[.slice A n c] w fun e w' => (∃ v F, e = .returned v ∧ OwnI w' w.heap.size v (codeAll xss) F ∧ (codeAll xss).length ≤ 65 * n + 1) ∧ Below w.heap.size w w' := by
  have hl := h.len
  have hcp := h.cap
  have hcm := h.capMax
  unfold maxLen at hcm
  have HL := Lib.hid hl; clear hl
  by_cases h0 : n = 0
  · subst h0
    have hx : xss = [] := List.eq_nil_of_length_eq_zero HL.out
    subst hx
    have HO := Lib.hid (OwnI.lit w w.heap.size [5] (Nat.le_refl _) (by unfold maxLen; simp) (by simp; rfl))
    go_enter Try.func52, Try.ntmps52
    go_wp2
    go_ret
    exact ⟨⟨_, _, rfl, HO.out, by simp [codeAll]⟩, (Below.refl _ _).alloc (Nat.le_refl _) _⟩
  · have hz : ((n : Int) == 0) = false := by simp; omega
    obtain ⟨b, off, x0, A0, c0, rfl, hb, hx0, hc0, hr0⟩ := h.get (show 0 < n by omega)
    have hc0' : w.cell? ⟨b, off, none⟩ = some (.slice A0 x0.length c0) := by simpa using hc0
    have hr0' : RdI .i64 (w.alloc (.cells #[] 3)) w.heap.size A0 x0.length c0 x0 := hr0.below ((Below.refl _ _).alloc (Nat.le_refl _) _)
    have hsx := hs x0 (List.mem_of_getElem? hx0)
    have hol : (w.alloc (.cells #[] 3)).ownsRow w.heap.size 3 1 (.slice (some ⟨w.heap.size, 0, none⟩) 0 0) 0 [] := World.ownsRow_lit w #[] 0 (Nat.le_refl _) (by unfold maxLen; omega) rfl
    have HX0 : Hid (xss.take 1 = [x0]) := Lib.hid (by cases xss with
      | nil => simp at hx0
      | cons y r => simp at hx0; subst hx0; simp)
    clear hc0 hx0
    go_enter Try.func52, Try.ntmps52
    go_wp2_with (at_builtin; refine wp_app elInt rfl _ _ rfl w.heap.size _ 0 [] rfl hol w.heap.size A0 x0.length c0 (ints x0) rfl hr0'.row (ints_cell _) (by omega) (by omega) (by simp) ?_; intro v2 w2 hown2 hg2 hat2)
    have hb2 : Below w.heap.size w w2 := ((Below.refl _ _).alloc (Nat.le_refl _) (.cells #[] 3)).grown hg2 (by simp) (fun k hk => by have := (hol.lt k hk).1; omega)
    have ho2 : OwnI w2 w.heap.size v2 (codeAll (xss.take 1)) v2.ownBlock.toList := by
      rw [HX0.out]
      exact ⟨by simpa [codeAll] using hown2, hr0.wf, rfl⟩
    have hl2 : (codeAll (xss.take 1)).length ≤ 65 * 1 + 1 := by rw [HX0.out]; simp [codeAll]; omega
    have HO2 := Lib.hid ho2
    have HL2 := Lib.hid hl2
    have HB2 := Lib.hid hb2
    clear hown2 hg2 hat2 hol hr0' hr0 ho2 hl2 hb2
    go_wp2
    go_loopw [4, 3] (fun i v wr => ∃ (k : Nat) (F : List Nat), 1 ≤ k ∧ k ≤ n ∧ i = .int .i64 k ∧ OwnI wr w.heap.size v (codeAll (xss.take k)) F ∧ (codeAll (xss.take k)).length ≤ 65 * k + 1 ∧ Below w.heap.size w wr) (fun i _ _ => n - (intOf i).toNat)
    case atStart => exact ⟨1, _, by omega, by omega, rfl, HO2.out, HL2.out, HB2.out⟩
    case round =>
      obtain ⟨k, F, hk1, hk, rfl, ho, hlen, hbel⟩ := hrel
      by_cases hlt : k < n
      · obtain ⟨b', off', x, Ai, ci, e, hb', hx, hcx, hrx⟩ := h.get hlt
        simp only [Option.some.injEq, Addr.mk.injEq] at e
        obtain ⟨rfl, rfl, -⟩ := e
        have hcr : wr.cell? ⟨b, off + k, none⟩ = some (.slice Ai x.length ci) := (bcells hbel b _ hb').trans hcx
        have hrr := hrx.below hbel
        have hsx' := hs x (List.mem_of_getElem? hx)
        have HC := Lib.hid (codeAll_take xss k hk1 x hx)
        have hsz := hbel.size
        clear hcx hx
        go_wp2_with (first
          | (at_builtin; refine wp_app elInt rfl (.tmp 20) (.tmp 24) rfl w.heap.size _ _ _ rfl ho.row w.heap.size Ai x.length ci (ints x) rfl hrr.row (ints_cell _) (by omega) (by omega) (by omega) ?_; intro v3 w3 hown3 hg3 hat3)
          | (at_builtin; refine wp_app elInt rfl (.tmp 25) (.tmp 26) rfl w.heap.size v3 _ _ rfl (hown3.alloc _) _ _ 1 1 [.int .i64 8] rfl (RdRow.new w3 [.int .i64 8] 3 1 1 rfl (by unfold maxLen; omega)) (by simp [Value.oneCell']) (by omega) (by omega) (by have := hg3.size; simp; omega) ?_; intro v4 w4 hown4 hg4 hat4))
        have hs3 := hg3.size
        have hb3 : Below w.heap.size w w3 := hbel.grown hg3 hsz (fun j hj => by have := (ho.row.lt j hj).1; omega)
        have hb4 : Below w.heap.size w w4 := (hb3.alloc (by omega) _).grown hg4 (by simp; omega) (fun j hj => by have := (hown3.lt j hj).1; omega)
        have ho4 : OwnI w4 w.heap.size v4 (codeAll (xss.take (k + 1))) v4.ownBlock.toList := by
          rw [HC.out]
          refine ⟨?_, ?_, rfl⟩
          · simp only [List.length_append, List.length_cons, List.length_nil, ints_append] at hown4 ⊢
            exact hown4
          · intro z hz
            rcases List.mem_append.1 hz with hz | hz
            · rcases List.mem_append.1 hz with hz | hz
              · exact ho.wf z hz
              · exact hrx.wf z hz
            · simp at hz; subst hz; rfl
        go_wp2
        go_roundw
        case rel =>
          refine ⟨k + 1, _, by omega, by omega, by go_num, ho4, ?_, hb4⟩
          rw [HC.out]; simp; omega
        case measure => simp [intOf]; omega
      · have hkn : k = n := by omega
        subst hkn
        have HT : Hid (xss.take k = xss) := Lib.hid (by rw [← HL.out, List.take_length])
        go_wp2
        go_ret
        rw [HT.out] at ho hlen
        exact ⟨⟨_, _, rfl, ho, hlen⟩, hbel⟩

theorem elRow : ElemT Try.prog 75 23 (.slice none 0 0) 1 24 := ⟨Try.underlying75, info_parts (by kernel_rfl), rfl, by omega⟩
set_option maxRecDepth 100000 in
theorem l9None_any (m : Nat) (w : World) (hm : m ≤ 32) :
    Calls Try.prog 27 #[.int .i64 m] w fun e w' => (∃ v F, e = .returned v ∧ OwnI w' w.heap.size v (codeAll (noneParts m)) F ∧ (codeAll (noneParts m)).length ≤ 65 * m + 1) ∧ Below w.heap.size w w' := by
  have HP := Lib.hid (OwnP.lit w w.heap.size (Nat.le_refl _))
  go_enter Try.func27, Try.ntmps27
  go_wp2
  go_loopw [4, 3] (fun i v wr => ∃ (k : Nat) (vs : List Value), k ≤ m ∧ i = .int .i64 k ∧ OwnP wr w.heap.size v (noneParts k) vs ∧ Below w.heap.size w wr) (fun i _ _ => m - (intOf i).toNat)
  case atStart => exact ⟨0, _, by omega, rfl, HP.out, (Below.refl _ _).alloc (Nat.le_refl _) _⟩
  case round =>
    obtain ⟨k, vs, hk, rfl, hp, hbel⟩ := hrel
    have hsz := hbel.size
    by_cases hlt : k < m
    · have hrow := hp.row
      rw [noneParts_len] at hrow
      have ho := OwnI.lit wr wr.heap.size (nonePart k) (Nat.le_refl _) (by simp [nonePart]; unfold maxLen; omega) (by
        intro x hx
        simp [nonePart] at hx
        rcases hx with rfl | rfl
        · exact wf_i64_mk (by omega)
        · rfl)
      have HO := Lib.hid ho
      have HK := Lib.hid (noneParts_succ k)
      clear ho
      go_wp2_with (at_builtin; refine wp_app elRow rfl _ _ rfl w.heap.size _ k vs rfl (hrow.alloc _ |>.alloc _) _ _ 1 1 [.slice (some ⟨wr.heap.size, 0, none⟩) 2 2] rfl (RdRow.newAt (wr.alloc (.cells #[.int .i64 k, .int .i64 7] 3)) [.slice (some ⟨wr.heap.size, 0, none⟩) 2 2] 23 1 1 (wr.heap.size + 1) (by simp) rfl (by unfold maxLen; omega)) (by simp [Value.oneCell']) (by omega) (by omega) (by simp; omega) ?_; intro v3 w3 hown3 hg3 hat3)
      have hp3 := hp.app hsz (((Below.refl _ _).alloc (Nat.le_refl _) _).alloc (by simp) _) (HO.out.below ((Below.refl _ _).alloc (Nat.le_refl _) (.cells #[.slice (some ⟨wr.heap.size, 0, none⟩) 2 2] 23))) (by rw [noneParts_len]) hown3 hg3 hat3
      rw [← HK.out] at hp3
      have hb3 : Below w.heap.size w w3 := ((hbel.alloc hsz _).alloc (by simp; omega) _).grown hg3 (by simp; omega) (fun j hj => by have := (hrow.lt j hj).1; omega)
      clear hown3 hg3 hat3 hrow
      go_wp2
      go_roundw
      case rel => exact ⟨k + 1, _, by omega, by go_num, hp3, hb3⟩
      case measure => simp [intOf]; omega
    · have hkm : k = m := by omega
      subst hkm
      obtain ⟨A, c, hv, hr⟩ := hp.rd
      subst hv
      rw [noneParts_len] at hr
      have HS : Hid (∀ xs ∈ noneParts k, xs.length ≤ 64) := Lib.hid (by
        intro xs hx
        unfold noneParts at hx
        obtain ⟨j, -, rfl⟩ := List.mem_map.1 hx
        simp [nonePart])
      simp only [noneParts_len]
      clear hp
      go_wp2_with fail
      refine (l9All_any A k c _ _ hr HS.out (by omega)).mono ?_
      rintro e w2 ⟨⟨v2, F, rfl, ho, hl⟩, hb⟩
      go_wp2
      go_ret
      exact ⟨⟨_, _, rfl, ho.mono hsz, hl⟩, hbel.trans (hb.mono hsz)⟩
theorem noneI_wf (m : Nat) (hm : m ≤ 1024) : ∀ x ∈ noneI m, (Lit.int .i64 x).wf = true := by
  induction m with
  | zero => simp [noneI]
  | succ m ih =>
    intro x hx
    unfold noneI at hx
    split at hx
    · simp at hx; rcases hx with rfl | rfl <;> rfl
    · simp only [List.mem_append, List.mem_cons, List.not_mem_nil, or_false] at hx
      rcases hx with (hx | rfl | rfl) | rfl
      · exact ih (by omega) x hx
      · exact wf_i64_mk (by omega)
      · rfl
      · rfl
set_option maxRecDepth 100000 in
theorem noneHolds_any (m : Nat) (w : World) (hm : m ≤ 32) :
    Calls Try.prog 22 #[.int .i64 m] w fun e w' => (∃ v F, e = .returned v ∧ OwnI w' w.heap.size v (noneI m) F) ∧ Below w.heap.size w w' := by
  go_enter Try.func22, Try.ntmps22
  go_wp2
  go_loopw [6, 3] (fun i v wr => ∃ (k : Nat), k ≤ m ∧ i = .int .i64 k ∧ wr.ownsRow w.heap.size 3 1 v (noneI k).length (ints (noneI k)) ∧ Below w.heap.size w wr) (fun i _ _ => m - (intOf i).toNat)
  case atStart => exact ⟨0, by omega, rfl, World.ownsRow_nil w _ _ 1, Below.refl _ _⟩
  case round =>
    obtain ⟨k, hk, rfl, ho, hbel⟩ := hrel
    have hsz := hbel.size
    have hlen := noneI_len k
    by_cases hlt : k < m
    · by_cases h0 : k = 0
      · subst h0
        go_wp2_with (at_builtin; refine wp_app elInt rfl _ _ rfl w.heap.size _ _ _ rfl (ho.alloc _) _ _ 2 2 [.int .i64 0, .int .i64 7] rfl (RdRow.new wr [.int .i64 0, .int .i64 7] 3 1 2 rfl (by unfold maxLen; omega)) (by simp [Value.oneCell']) (by simp [noneI]) (by simp [noneI]) (by simp; omega) ?_; intro v3 w3 hown3 hg3 hat3)
        have hb3 : Below w.heap.size w w3 := (hbel.alloc hsz _).grown hg3 (by simp; omega) (fun j hj => by have := (ho.lt j hj).1; omega)
        go_wp2
        go_roundw
        case rel => exact ⟨1, by omega, by go_num, hown3, hb3⟩
        case measure => simp [intOf]; omega
      · have HK : Hid (noneI (k + 1) = noneI k ++ [(k : Int), 7] ++ [8]) := Lib.hid (by rw [noneI, if_neg h0])
        go_wp2_with (first
          | (at_builtin; refine wp_app elInt rfl (.tmp 9) (.tmp 11) rfl w.heap.size _ _ _ rfl (ho.alloc _) _ _ 2 2 [.int .i64 k, .int .i64 7] rfl (RdRow.new wr [.int .i64 k, .int .i64 7] 3 1 2 rfl (by unfold maxLen; omega)) (by simp [Value.oneCell']) (by omega) (by omega) (by simp; omega) ?_; intro v3 w3 hown3 hg3 hat3)
          | (at_builtin; refine wp_app elInt rfl (.tmp 15) (.tmp 16) rfl w.heap.size _ _ _ rfl (hown3.alloc _) _ _ 1 1 [.int .i64 8] rfl (RdRow.new w3 [.int .i64 8] 3 1 1 rfl (by unfold maxLen; omega)) (by simp [Value.oneCell']) (by omega) (by omega) (by have := hg3.size; simp at this ⊢; omega) ?_; intro v4 w4 hown4 hg4 hat4))
        have hs3 := hg3.size
        simp only [World.size_alloc] at hs3
        have hb3 : Below w.heap.size w w3 := (hbel.alloc hsz _).grown hg3 (by simp; omega) (fun j hj => by have := (ho.lt j hj).1; omega)
        have hb4 : Below w.heap.size w w4 := (hb3.alloc (by omega) _).grown hg4 (by simp; omega) (fun j hj => by have := (hown3.lt j hj).1; omega)
        have ho4 : w4.ownsRow w.heap.size 3 1 v4 (noneI (k + 1)).length (ints (noneI (k + 1))) := by
          rw [HK.out]
          simp only [List.length_append, List.length_cons, List.length_nil, ints_append]
          exact hown4
        clear hown4 hown3 hg3 hg4
        go_wp2
        go_roundw
        case rel => exact ⟨k + 1, by omega, by go_num, ho4, hb4⟩
        case measure => simp [intOf]; omega
    · have hkm : k = m := by omega
      subst hkm
      have HW := Lib.hid (noneI_wf k (by omega))
      go_wp2
      go_ret
      exact ⟨⟨_, _, rfl, ho, HW.out, rfl⟩, hbel⟩
end Go.Proofs.Ytfgebdioffeliaa
