/- stepsUnder of the program. -/
import Derived.Test.YtkimgdfcgfhibaaDoorSBack
import Derived.Test.YtkimgdfcgfhibaaDoorSNumL
import Derived.Test.YtkimgdfcgfhibaaDoorSFront
namespace Go.Proofs.YtkimgdfcgfhibaaDoor
set_option linter.unusedVariables false
set_option linter.unusedSimpArgs false
open Go.ChangeShapes Go.WideShapes Go.ChangeAt Go.RowKit

/-- no deed makes the number less by more than one -/
def underOk (ds : List DeedD) (xs : List Int) : Prop := ∀ (k : Nat) (d : DeedD) (s q : Nat), ds[k]? = some d → s < 32 → deedDo d s = some q → xv xs s - 1 ≤ xv xs q
/-- the first k deeds, and of the k-th the first m states -/
def underTo (ds : List DeedD) (xs : List Int) (k m : Nat) : Prop := ∀ (j : Nat) (d : DeedD) (s q : Nat), ds[j]? = some d → s < 32 → (j < k ∨ j = k ∧ s < m) → deedDo d s = some q → xv xs s - 1 ≤ xv xs q
theorem under_zero (ds : List DeedD) (xs : List Int) : underTo ds xs 0 0 := fun j d s q _ _ h _ => by omega
theorem under_next {ds : List DeedD} {xs : List Int} {k : Nat} (h : underTo ds xs k 32) : underTo ds xs (k + 1) 0 := fun j d s q hj hs hk e => h j d s q hj hs (by omega) e
theorem under_none {ds : List DeedD} {xs : List Int} {k m : Nat} {d : DeedD} (h : underTo ds xs k m) (hd : ds[k]? = some d) (e : deedDo d m = none) : underTo ds xs k (m + 1) := fun j d' s q hj hs hk e' => by
  by_cases h1 : j = k ∧ s = m
  · obtain ⟨rfl, rfl⟩ := h1
    rw [hd] at hj; cases hj; rw [e] at e'; cases e'
  · exact h j d' s q hj hs (by omega) e'
theorem under_some {ds : List DeedD} {xs : List Int} {k m q : Nat} {d : DeedD} (h : underTo ds xs k m) (hd : ds[k]? = some d) (e : deedDo d m = some q) (hq : ¬ xv xs q < xv xs m - 1) : underTo ds xs k (m + 1) := fun j d' s q' hj hs hk e' => by
  by_cases h1 : j = k ∧ s = m
  · obtain ⟨rfl, rfl⟩ := h1
    rw [hd] at hj; cases hj; rw [e] at e'; cases e'; omega
  · exact h j d' s q' hj hs (by omega) e'
theorem under_all {ds : List DeedD} {xs : List Int} (h : underTo ds xs ds.length 0) : underOk ds xs := fun k d s q hk hs e => h k d s q hk hs (Or.inl (List.getElem?_eq_some_iff.1 hk).1) e
theorem under_not {ds : List DeedD} {xs : List Int} {k m q : Nat} {d : DeedD} (hm : m < 32) (hd : ds[k]? = some d) (e : deedDo d m = some q) (hq : xv xs q < xv xs m - 1) : ¬ underOk ds xs := fun h => by have := h k d m q hd hm e; omega
def underErr (ds : List DeedD) (xs : List Int) (e : Ending) : Prop := underOk ds xs ∧ e = .returned .nilIface ∨ ¬ underOk ds xs ∧ ∃ a b : Nat, a < 32 ∧ b < 32 ∧ e = .returned (.iface 62 (.agg #[.int .i64 a, .int .i64 b]))
set_option maxRecDepth 100000 in
set_option maxHeartbeats 2000000 in
theorem stepsUnder_any (v : Value) (t : TaskD) (A : Option Addr) (c : Nat) (xs : List Int) (w : World) (h : RdT w w.heap.size v t) (hok : taskOk t = true) (hx : RdI .i64 w w.heap.size A 32 c xs) (h0 : ∀ s, s < 32 → 0 ≤ xv xs s) :
    Calls Tryd.prog 40 #[v, .slice A 32 c] w fun e w' => underErr t.deeds xs e ∧ Below w.heap.size w w' := by
  have h' := h
  obtain ⟨G, gn, gc, G', n', c', rfl, -, -, -, -⟩ := h
  have HS0 := Lib.hid ((St.refl w).alloc #[.int .i64 t.start, .slice G gn gc, .slice G' n' c'] 26)
  have HT := Lib.hid h'
  obtain ⟨-, -, hn6, hdok⟩ := taskOk_parts t hok
  obtain ⟨xb, xo, rfl, hxb, hxc⟩ := hx.x32
  have HXC := Bx.mk hxc
  have HX0 := Bx.mk h0
  have HDOK := Lib.hid hdok
  clear hx hxc h0 hdok
  go_enter Tryd.func40, Tryd.ntmps40
  go_wp2_with fail
  refine (behindAll_any _ t _ (HT.out.up HS0.out.below) hok).mono ?_
  rintro e w3 ⟨rv, rfl, s3⟩
  obtain ⟨n, hn⟩ : ∃ n, t.deeds.length = n := ⟨_, rfl⟩
  obtain ⟨RA, RC, hrv, -⟩ := s3.rdRow 0 rfl
  rw [hn] at hrv hn6
  subst hrv
  obtain ⟨ds, hds⟩ : ∃ ds, t.deeds = ds := ⟨_, rfl⟩
  have HDE := Bx.mk hds
  rw [hds] at s3 hn HDOK
  have HL := Lib.hid hn
  have HRB : Hid (∀ W L, St w W (rBeh (.slice RA n RC) ds :: L) → RdRow W W.heap.size 32 RA n RC (ints (behL ds))) := Lib.hid fun W L h => h.rdRow' (n := n) 0 (by rw [← HL.out]; rfl)
  have HS3 : Hid (St w w3 [rBeh (.slice RA n RC) ds]) := Lib.hid (HS0.out.call s3).tl
  clear s3 hn h' hok hds HS0 HT
  go_wp2
  go_loopw [12] (fun i wr => ∃ k : Nat, k ≤ n ∧ i = .int .i64 k ∧ Hid (underTo ds xs k 0) ∧ St w wr [rBeh (.slice RA n RC) ds]) (fun i _ => n - (intOf i).toNat)
  case atStart => exact ⟨0, by omega, rfl, Lib.hid (under_zero _ _), HS3.out⟩
  case round =>
    clear HS3
    obtain ⟨k, hk, rfl, HM, S⟩ := hrel
    have HS := Lib.hid S
    clear S
    by_cases hlt : k < n
    · obtain ⟨b, off, d, rfl, hb, hdk, hrow⟩ := beh_row (HRB.out _ _ HS.out) HL.out hlt
      have HLD : Hid (∀ j v, (rowOf d)[j]? = some v → wr.cell? ⟨b, off + k * 32 + j, none⟩ = some v) := Lib.hid hrow
      have HDK := Lib.hid hdk
      clear hrow hdk
      go_wp2_with (first
        | (refine wpList_load_arr 77 (.tmp 15) rfl rfl 3 32 undBeh b (off + k * 32) (rowOf d) rfl (by rw [rowOf_len]; exact infoBeh) HLD.out ?_)
        | (refine wpList_store_arr 77 (.tmp 6) (.tmp 16) rfl rfl _ (rowOf d) rfl rfl (by rw [rowOf_len]; exact infoBeh) (by rw [rowOf_len]; rfl) (by simp [rowOf, Value.oneCell']) ?_)
        | (refine wpList_load_arr 77 (.tmp 6) rfl rfl 3 32 undBeh wr.heap.size 0 (rowOf d) rfl (by rw [rowOf_len]; exact infoBeh) (by simp) ?_))
      have HDO := Lib.hid (HDOK.out d (List.mem_of_getElem? HDK.out))
      have HS1 : Hid (St w (wr.alloc (.cells (rowOf d).toArray 77)) [rBeh (.slice (some ⟨b, off, none⟩) n RC) ds]) := Lib.hid ((HS.out.alloc (rowOf d).toArray 77).pick [0] (by decide) rfl rfl)
      have HRO := Lib.hid (rowOf_at d)
      have HLEN := Lib.hid (rowOf_len d)
      generalize rowOf d = R at HRO HLEN HS1 ⊢
      clear HLD
      go_loopw [18] (fun i wr => ∃ m : Nat, m ≤ 32 ∧ i = .int .i64 m ∧ Hid (underTo ds xs k m) ∧ St w wr [rBeh (.slice (some ⟨b, off, none⟩) n RC) ds]) (fun i _ => 32 - (intOf i).toNat)
      case atStart => exact ⟨0, by omega, rfl, HM, HS1.out⟩
      case round =>
        clear HM HS1 HS
        obtain ⟨m, hm32, rfl, HM, S⟩ := hrel
        have HS := Lib.hid S
        clear S
        by_cases hm : m < 32
        · obtain ⟨o, ho⟩ : ∃ o, deedDo d m = o := ⟨_, rfl⟩
          have hix := HRO.out m hm
          rw [ho] at hix
          have HIX := fun w => run_index_arr (P := Tryd.prog) (w := w) (xs := R) (k := m) (v := .int .i64 (opt o)) undBeh hix HLEN.out infoInt Tryd.underlying3
          have HO := Lib.hid ho
          clear ho
          cases o with
          | none =>
            have HM2 := Lib.hid (under_none HM.out HDK.out HO.out)
            simp only [opt] at HIX
            go_upto_region 7 with (fail)
            go_quiet (fail)
            have HS5 := Lib.hid (HS.out.drewN nq)
            go_wp2
            go_roundw
            case rel => exact ⟨m + 1, by omega, by go_num, HM2, HS5.out⟩
            case measure => simp [intOf]; omega
          | some q =>
            have hq := deedDo_lt d m q HDO.out hm HO.out
            obtain ⟨x, hxv⟩ : ∃ x, xv xs m = x := ⟨_, rfl⟩
            obtain ⟨y, hyv⟩ : ∃ y, xv xs q = y := ⟨_, rfl⟩
            have HX := Bx.mk hxv
            have HY := Bx.mk hyv
            have rx : wr.cell? ⟨xb, xo + m, none⟩ = some (.int .i64 x) := (bcells HS.out.below xb _ hxb).trans (by rw [← hxv]; exact (HXC.out m hm).2)
            have ry : wr.cell? ⟨xb, xo + q, none⟩ = some (.int .i64 y) := (bcells HS.out.below xb _ hxb).trans (by rw [← hyv]; exact (HXC.out q hq).2)
            have hxw := wf_i64 (by rw [← hxv]; exact (HXC.out m hm).1 : (Lit.int .i64 x).wf = true)
            have hx0 : 0 ≤ x := by rw [← hxv]; exact HX0.out m hm
            have hsk : IntKind.i64.wrap (x - 1) = x - 1 := IntWalk.i64_in _ (by omega)
            clear hxv hyv
            simp only [opt] at HIX
            by_cases hyx : y < x - 1
            case pos =>
              have HF := Bx.mk (under_not (xs := xs) hm HDK.out HO.out (by rw [HX.out, HY.out]; exact hyx))
              have hdy : decide (y < x - 1) = true := decide_eq_true hyx
              go_upto_region 7 with (fail)
              go_quiet (fail)
              have HS5 := Lib.hid (HS.out.drewN nq)
              go_wp2
              go_ret
              exact ⟨by rw [HDE.out]; exact Or.inr ⟨HF.out, k, m, by omega, hm, rfl⟩, HS5.out.below⟩
            case neg =>
              have HM2 := Lib.hid (under_some HM.out HDK.out HO.out (by rw [HX.out, HY.out]; exact hyx))
              have hdy : decide (y < x - 1) = false := decide_eq_false hyx
              go_upto_region 7 with (fail)
              go_quiet (fail)
              have HS5 := Lib.hid (HS.out.drewN nq)
              go_wp2
              go_roundw
              case rel => exact ⟨m + 1, by omega, by go_num, HM2, HS5.out⟩
              case measure => simp [intOf]; omega
        · have HM2 : Hid (underTo ds xs (k + 1) 0) := Lib.hid (under_next (by rw [← show m = 32 by omega]; exact HM.out))
          go_wp2
          go_roundw
          case rel => exact ⟨k + 1, by omega, by go_num, HM2, HS.out⟩
          case measure => simp [intOf]; omega
    · have HF : Hid (underOk ds xs) := Lib.hid (under_all (by rw [HL.out, ← show k = n by omega]; exact HM.out))
      go_wp2
      go_ret
      exact ⟨by rw [HDE.out]; exact Or.inl ⟨HF.out, rfl⟩, HS.out.below⟩
end Go.Proofs.YtkimgdfcgfhibaaDoor
