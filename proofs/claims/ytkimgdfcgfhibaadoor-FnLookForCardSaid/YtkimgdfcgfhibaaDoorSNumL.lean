/- Joined texts: NumL, Under, Agree. -/
import Derived.Test.YtkimgdfcgfhibaaDoorSFrom
import Derived.Test.YtkimgdfcgfhibaaDoorSBack
import Derived.Test.YtkimgdfcgfhibaaDoorSDraw
import Derived.Test.YtkimgdfcgfhibaaDoorSShadP
/- Small laws on numbers of states, for the walks of NumbersOk, MustLook, NumbersFor. -/
namespace Go.Proofs.YtkimgdfcgfhibaaDoor
set_option linter.unusedVariables false
set_option linter.unusedSimpArgs false

theorem St.formN {w W : World} {L : List HRes} (h : St w W L) (i : Nat) {v : Value} {xs : List Int} (hi : L[i]? = some (rInts v xs)) {n : Nat} (hn : xs.length = n) : ∃ A c, v = .slice A n c := by
  obtain ⟨F, h1, -⟩ := h.get i hi
  subst hn
  rcases h1.row.2 with ⟨h2, h3⟩ | ⟨g, cap, cur, hv, _⟩
  · exact ⟨none, 0, by rw [h2, h3]⟩
  · exact ⟨_, cap, hv⟩
theorem xv_some {xs : List Int} {s : Nat} (h : s < xs.length) : xs[s]? = some (xv xs s) := by
  unfold xv; rw [List.getD_eq_getElem?_getD, List.getElem?_eq_getElem h]; rfl
theorem RdI.x32 {w : World} {B c : Nat} {A : Option Addr} {xs : List Int} (h : RdI .i64 w B A 32 c xs) :
    ∃ b off, A = some ⟨b, off, none⟩ ∧ b < B ∧ ∀ s, s < 32 → (Lit.int .i64 (xv xs s)).wf = true ∧ w.cell? ⟨b, off + s, none⟩ = some (.int .i64 (xv xs s)) := by
  obtain ⟨b, off, hA, hb, hc⟩ := h.at_ (by omega)
  refine ⟨b, off, hA, hb, fun s hs => ?_⟩
  have e := xv_some (xs := xs) (s := s) (by rw [h.len]; exact hs)
  exact ⟨h.wf _ (List.mem_of_getElem? e), hc s _ e⟩
theorem xv_wf {xs : List Int} (h : ∀ x ∈ xs, (Lit.int .i64 x).wf = true) (s : Nat) : (Lit.int .i64 (xv xs s)).wf = true := by
  unfold xv
  rw [List.getD_eq_getElem?_getD]
  cases e : xs[s]? with
  | none => rfl
  | some x => exact h x (List.mem_of_getElem? e)

theorem numsOk_task {t : TaskD} {xs : List Int} (h : taskOk t = false) : numsOk t xs = false := by unfold numsOk; rw [h]; rfl
theorem numsOk_len {t : TaskD} {xs : List Int} (h : xs.length ≠ 32) : numsOk t xs = false := by unfold numsOk; rw [decide_eq_false h]; simp
theorem numsOk_row {t : TaskD} {xs : List Int} {s : Nat} (hs : s < 32) (h : numRow t xs s = false) : numsOk t xs = false := by
  unfold numsOk
  have : ((List.range 32).all (numRow t xs)) = false := by
    rw [List.all_eq_false]; exact ⟨s, List.mem_range.2 hs, by rw [h]; simp⟩
  rw [this]; simp
theorem numsOk_all {t : TaskD} {xs : List Int} (h : taskOk t = true) (hl : xs.length = 32) (hr : ∀ s, s < 32 → numRow t xs s = true) : numsOk t xs = true := by
  unfold numsOk
  rw [h, decide_eq_true hl, Bool.true_and, Bool.true_and, List.all_eq_true]
  exact fun s hs => hr s (List.mem_range.1 hs)
theorem numRow_bd {t : TaskD} {xs : List Int} {s : Nat} (h : ¬ (0 ≤ xv xs s ∧ xv xs s ≤ 40)) : numRow t xs s = false := by unfold numRow; rw [decide_eq_false h]; rfl
theorem numRow_goal {t : TaskD} {xs : List Int} {s : Nat} (hg : evalCode t.goal s = true) (h : xv xs s ≠ 0) : numRow t xs s = false := by
  have : (xv xs s == 0) = false := beq_false_of_ne h
  unfold numRow; rw [hg, this]; simp
theorem numRow_deed {t : TaskD} {xs : List Int} {s k q : Nat} {d : DeedD} (hd : t.deeds[k]? = some d) (e : deedDo d s = some q) (h : xv xs q < xv xs s - 1) : numRow t xs s = false := by
  cases hr : numRow t xs s with
  | false => rfl
  | true => have := (numRow_iff.1 hr).2.2 d (List.mem_of_getElem? hd) q e; omega
/-- the first k deeds are as they should be at s -/
def rowTo (ds : List DeedD) (xs : List Int) (s k : Nat) : Prop := ∀ (j : Nat) (d : DeedD) (q : Nat), j < k → ds[j]? = some d → deedDo d s = some q → xv xs s - 1 ≤ xv xs q
theorem rowTo_zero (ds : List DeedD) (xs : List Int) (s : Nat) : rowTo ds xs s 0 := fun j d q h => by omega
theorem rowTo_none {ds : List DeedD} {xs : List Int} {s k : Nat} {d : DeedD} (h : rowTo ds xs s k) (hd : ds[k]? = some d) (e : deedDo d s = none) : rowTo ds xs s (k + 1) := fun j d' q hj hd' e' => by
  rcases Nat.lt_or_ge j k with h1 | h1
  · exact h j d' q h1 hd' e'
  · obtain rfl : j = k := by omega
    rw [hd] at hd'; cases hd'; rw [e] at e'; cases e'
theorem rowTo_some {ds : List DeedD} {xs : List Int} {s k q : Nat} {d : DeedD} (h : rowTo ds xs s k) (hd : ds[k]? = some d) (e : deedDo d s = some q) (hq : ¬ xv xs q < xv xs s - 1) : rowTo ds xs s (k + 1) := fun j d' q' hj hd' e' => by
  rcases Nat.lt_or_ge j k with h1 | h1
  · exact h j d' q' h1 hd' e'
  · obtain rfl : j = k := by omega
    rw [hd] at hd'; cases hd'; rw [e] at e'; cases e'; omega
theorem numRow_yes {t : TaskD} {xs : List Int} {s : Nat} (hb : 0 ≤ xv xs s ∧ xv xs s ≤ 40) (hg : evalCode t.goal s = true → xv xs s = 0) (h : rowTo t.deeds xs s t.deeds.length) : numRow t xs s = true :=
  numRow_iff.2 ⟨hb, hg, fun d hd q e => by
    obtain ⟨j, hj, rfl⟩ := List.getElem_of_mem hd
    exact h j _ q hj (List.getElem?_eq_getElem hj) e⟩
/-- the first m states are as they should be -/
def rowsTo (t : TaskD) (xs : List Int) (m : Nat) : Prop := ∀ s, s < m → numRow t xs s = true
theorem rowsTo_zero (t : TaskD) (xs : List Int) : rowsTo t xs 0 := fun s h => by omega
theorem rowsTo_next {t : TaskD} {xs : List Int} {m : Nat} (h : rowsTo t xs m) (k : numRow t xs m = true) : rowsTo t xs (m + 1) := fun s hs => by
  rcases Nat.lt_or_ge s m with h1 | h1
  · exact h s h1
  · obtain rfl : s = m := by omega
    exact k

theorem up40_take {xs : List Int} {k : Nat} (h : k < xs.length) : up40 (xs.take (k + 1)) = up40 (xs.take k) ++ [if xv xs k < 0 then 40 else xv xs k] := by
  rw [List.take_add_one, xv_some h]; simp [up40]
theorem up40_len (xs : List Int) : (up40 xs).length = xs.length := by simp [up40]
def fixV (x : Int) : Int := if x < 0 then 40 else x
theorem up40_map (xs : List Int) : up40 xs = xs.map fixV := rfl
theorem numsFor_yes {t : TaskD} (h : taskOk t = true) : numsFor t = up40 (stepsL t.deeds (evalCode t.goal)) := by unfold numsFor; rw [if_pos h]; rfl
theorem numsFor_no {t : TaskD} (h : taskOk t = false) : numsFor t = [] := by unfold numsFor; rw [if_neg (by rw [h]; simp)]
theorem numsFor_eq (t : TaskD) : numsFor t = up40 (stepsLeastR t) := by
  cases h : taskOk t with
  | true => rw [numsFor_yes h, stepsLeastR_yes t h]
  | false => rw [numsFor_no h, stepsLeastR_no t h]; rfl
theorem mustLook_no {t : TaskD} {xs : List Int} (h : numsOk t xs = false) : mustLook t xs = -1 := by unfold mustLook; rw [if_neg (by rw [h]; simp)]
theorem mustLook_yes {t : TaskD} {xs : List Int} (h : numsOk t xs = true) : mustLook t xs = (cnt (mustP t xs) 32 : Nat) := by unfold mustLook; rw [if_pos h]; rfl
theorem mustP_at {t : TaskD} {xs : List Int} {s s0 : Nat} (h : t.start = (s0 : Int)) : mustP t xs s = (decide (0 ≤ dstV t.deeds (only s0) s) && (decide (stpV t.deeds (evalCode t.goal) s0 < 0) && decide (xv xs s < 40) || decide (dstV t.deeds (only s0) s + xv xs s < stpV t.deeds (evalCode t.goal) s0))) := by
  unfold mustP; rw [h, Int.toNat_natCast]
theorem cnt_yes {p : Nat → Bool} {k : Nat} (h : p k = true) : cnt p (k + 1) = cnt p k + 1 := by unfold cnt; rw [List.range_succ, List.countP_append]; simp [h]
theorem cnt_no {p : Nat → Bool} {k : Nat} (h : p k = false) : cnt p (k + 1) = cnt p k := by unfold cnt; rw [List.range_succ, List.countP_append]; simp [h]
end Go.Proofs.YtkimgdfcgfhibaaDoor

/- stepsUnder of the program. -/
namespace Go.Proofs.YtkimgdfcgfhibaaDoor
set_option linter.unusedVariables false
set_option linter.unusedSimpArgs false
open Go.ChangeShapes Go.WideShapes Go.ChangeAt Go.RowKit

/-- no deed makes the number less by more than one -/
def underOk (ds : List DeedD) (xs : List Int) : Prop := ∀ (k : Nat) (d : DeedD) (s q : Nat), ds[k]? = some d → s < 32 → deedDo d s = some q → xv xs s - 1 ≤ xv xs q
/-- the first k deeds, and of the k-th the first m states -/
def underTo (ds : List DeedD) (xs : List Int) (k m : Nat) : Prop := ∀ (j : Nat) (d : DeedD) (s q : Nat), ds[j]? = some d → s < 32 → (j < k ∨ j = k ∧ s < m) → deedDo d s = some q → xv xs s - 1 ≤ xv xs q
theorem under_zero (ds : List DeedD) (xs : List Int) : underTo ds xs 0 0 := fun j d s q _ _ h _ => by omega
theorem under_next {ds : List DeedD} {xs : List Int} {k : Nat} (h : underTo ds xs k 32) : underTo ds xs (k + 1) 0 := fun j d s q hj hs hk e => h j d s q hj hs (by omega) e
theorem under_none {ds : List DeedD} {xs : List Int} {k m : Nat} {d : DeedD} (h : underTo ds xs k m) (hd : ds[k]? = some d) (e : deedDo d m = none) : underTo ds xs k (m + 1) := fun j d' s q hj hs hk e' => by
  by_cases h1 : j = k ∧ s = m
  · obtain ⟨rfl, rfl⟩ := h1
    rw [hd] at hj; cases hj; rw [e] at e'; cases e'
  · exact h j d' s q hj hs (by omega) e'
theorem under_some {ds : List DeedD} {xs : List Int} {k m q : Nat} {d : DeedD} (h : underTo ds xs k m) (hd : ds[k]? = some d) (e : deedDo d m = some q) (hq : ¬ xv xs q < xv xs m - 1) : underTo ds xs k (m + 1) := fun j d' s q' hj hs hk e' => by
  by_cases h1 : j = k ∧ s = m
  · obtain ⟨rfl, rfl⟩ := h1
    rw [hd] at hj; cases hj; rw [e] at e'; cases e'; omega
  · exact h j d' s q' hj hs (by omega) e'
theorem under_all {ds : List DeedD} {xs : List Int} (h : underTo ds xs ds.length 0) : underOk ds xs := fun k d s q hk hs e => h k d s q hk hs (Or.inl (List.getElem?_eq_some_iff.1 hk).1) e
theorem under_not {ds : List DeedD} {xs : List Int} {k m q : Nat} {d : DeedD} (hm : m < 32) (hd : ds[k]? = some d) (e : deedDo d m = some q) (hq : xv xs q < xv xs m - 1) : ¬ underOk ds xs := fun h => by have := h k d m q hd hm e; omega
def underErr (ds : List DeedD) (xs : List Int) (e : Ending) : Prop := underOk ds xs ∧ e = .returned .nilIface ∨ ¬ underOk ds xs ∧ ∃ a b : Nat, a < 32 ∧ b < 32 ∧ e = .returned (.iface 62 (.agg #[.int .i64 a, .int .i64 b]))
set_option maxRecDepth 100000 in
set_option maxHeartbeats 2000000 in
theorem stepsUnder_any (v : Value) (t : TaskD) (A : Option Addr) (c : Nat) (xs : List Int) (w : World) (h : RdT w w.heap.size v t) (hok : taskOk t = true) (hx : RdI .i64 w w.heap.size A 32 c xs) (h0 : ∀ s, s < 32 → 0 ≤ xv xs s) :
    Calls Tryd.prog 40 #[v, .slice A 32 c] w fun e w' => underErr t.deeds xs e ∧ Below w.heap.size w w' := by
  have h' := h
  obtain ⟨G, gn, gc, G', n', c', rfl, -, -, -, -⟩ := h
  have HS0 := Lib.hid ((St.refl w).alloc #[.int .i64 t.start, .slice G gn gc, .slice G' n' c'] 26)
  have HT := Lib.hid h'
  obtain ⟨-, -, hn6, hdok⟩ := taskOk_parts t hok
  obtain ⟨xb, xo, rfl, hxb, hxc⟩ := hx.x32
  have HXC := Bx.mk hxc
  have HX0 := Bx.mk h0
  have HDOK := Lib.hid hdok
  clear hx hxc h0 hdok
  go_enter Tryd.func40, Tryd.ntmps40
  go_wp2_with fail
  refine (behindAll_any _ t _ (HT.out.up HS0.out.below) hok).mono ?_
  rintro e w3 ⟨rv, rfl, s3⟩
  obtain ⟨n, hn⟩ : ∃ n, t.deeds.length = n := ⟨_, rfl⟩
  obtain ⟨RA, RC, hrv, -⟩ := s3.rdRow 0 rfl
  rw [hn] at hrv hn6
  subst hrv
  obtain ⟨ds, hds⟩ : ∃ ds, t.deeds = ds := ⟨_, rfl⟩
  have HDE := Bx.mk hds
  rw [hds] at s3 hn HDOK
  have HL := Lib.hid hn
  have HRB : Hid (∀ W L, St w W (rBeh (.slice RA n RC) ds :: L) → RdRow W W.heap.size 32 RA n RC (ints (behL ds))) := Lib.hid fun W L h => h.rdRow' (n := n) 0 (by rw [← HL.out]; rfl)
  have HS3 : Hid (St w w3 [rBeh (.slice RA n RC) ds]) := Lib.hid (HS0.out.call s3).tl
  clear s3 hn h' hok hds HS0 HT
  go_wp2
  go_loopw [12] (fun i wr => ∃ k : Nat, k ≤ n ∧ i = .int .i64 k ∧ Hid (underTo ds xs k 0) ∧ St w wr [rBeh (.slice RA n RC) ds]) (fun i _ => n - (intOf i).toNat)
  case atStart => exact ⟨0, by omega, rfl, Lib.hid (under_zero _ _), HS3.out⟩
  case round =>
    clear HS3
    obtain ⟨k, hk, rfl, HM, S⟩ := hrel
    have HS := Lib.hid S
    clear S
    by_cases hlt : k < n
    · obtain ⟨b, off, d, rfl, hb, hdk, hrow⟩ := beh_row (HRB.out _ _ HS.out) HL.out hlt
      have HLD : Hid (∀ j v, (rowOf d)[j]? = some v → wr.cell? ⟨b, off + k * 32 + j, none⟩ = some v) := Lib.hid hrow
      have HDK := Lib.hid hdk
      clear hrow hdk
      go_wp2_with (first
        | (refine wpList_load_arr 77 (.tmp 15) rfl rfl 3 32 undBeh b (off + k * 32) (rowOf d) rfl (by rw [rowOf_len]; exact infoBeh) HLD.out ?_)
        | (refine wpList_store_arr 77 (.tmp 6) (.tmp 16) rfl rfl _ (rowOf d) rfl rfl (by rw [rowOf_len]; exact infoBeh) (by rw [rowOf_len]; rfl) (by simp [rowOf, Value.oneCell']) ?_)
        | (refine wpList_load_arr 77 (.tmp 6) rfl rfl 3 32 undBeh wr.heap.size 0 (rowOf d) rfl (by rw [rowOf_len]; exact infoBeh) (by simp) ?_))
      have HDO := Lib.hid (HDOK.out d (List.mem_of_getElem? HDK.out))
      have HS1 : Hid (St w (wr.alloc (.cells (rowOf d).toArray 77)) [rBeh (.slice (some ⟨b, off, none⟩) n RC) ds]) := Lib.hid ((HS.out.alloc (rowOf d).toArray 77).pick [0] (by decide) rfl rfl)
      have HRO := Lib.hid (rowOf_at d)
      have HLEN := Lib.hid (rowOf_len d)
      generalize rowOf d = R at HRO HLEN HS1 ⊢
      clear HLD
      go_loopw [18] (fun i wr => ∃ m : Nat, m ≤ 32 ∧ i = .int .i64 m ∧ Hid (underTo ds xs k m) ∧ St w wr [rBeh (.slice (some ⟨b, off, none⟩) n RC) ds]) (fun i _ => 32 - (intOf i).toNat)
      case atStart => exact ⟨0, by omega, rfl, HM, HS1.out⟩
      case round =>
        clear HM HS1 HS
        obtain ⟨m, hm32, rfl, HM, S⟩ := hrel
        have HS := Lib.hid S
        clear S
        by_cases hm : m < 32
        · obtain ⟨o, ho⟩ : ∃ o, deedDo d m = o := ⟨_, rfl⟩
          have hix := HRO.out m hm
          rw [ho] at hix
          have HIX := fun w => run_index_arr (P := Tryd.prog) (w := w) (xs := R) (k := m) (v := .int .i64 (opt o)) undBeh hix HLEN.out infoInt Tryd.underlying3
          have HO := Lib.hid ho
          clear ho
          cases o with
          | none =>
            have HM2 := Lib.hid (under_none HM.out HDK.out HO.out)
            simp only [opt] at HIX
            go_upto_region 7 with (fail)
            go_quiet (fail)
            have HS5 := Lib.hid (HS.out.drewN nq)
            go_wp2
            go_roundw
            case rel => exact ⟨m + 1, by omega, by go_num, HM2, HS5.out⟩
            case measure => simp [intOf]; omega
          | some q =>
            have hq := deedDo_lt d m q HDO.out hm HO.out
            obtain ⟨x, hxv⟩ : ∃ x, xv xs m = x := ⟨_, rfl⟩
            obtain ⟨y, hyv⟩ : ∃ y, xv xs q = y := ⟨_, rfl⟩
            have HX := Bx.mk hxv
            have HY := Bx.mk hyv
            have rx : wr.cell? ⟨xb, xo + m, none⟩ = some (.int .i64 x) := (bcells HS.out.below xb _ hxb).trans (by rw [← hxv]; exact (HXC.out m hm).2)
            have ry : wr.cell? ⟨xb, xo + q, none⟩ = some (.int .i64 y) := (bcells HS.out.below xb _ hxb).trans (by rw [← hyv]; exact (HXC.out q hq).2)
            have hxw := wf_i64 (by rw [← hxv]; exact (HXC.out m hm).1 : (Lit.int .i64 x).wf = true)
            have hx0 : 0 ≤ x := by rw [← hxv]; exact HX0.out m hm
            have hsk : IntKind.i64.wrap (x - 1) = x - 1 := IntWalk.i64_in _ (by omega)
            clear hxv hyv
            simp only [opt] at HIX
            by_cases hyx : y < x - 1
            case pos =>
              have HF := Bx.mk (under_not (xs := xs) hm HDK.out HO.out (by rw [HX.out, HY.out]; exact hyx))
              have hdy : decide (y < x - 1) = true := decide_eq_true hyx
              go_upto_region 7 with (fail)
              go_quiet (fail)
              have HS5 := Lib.hid (HS.out.drewN nq)
              go_wp2
              go_ret
              exact ⟨by rw [HDE.out]; exact Or.inr ⟨HF.out, k, m, by omega, hm, rfl⟩, HS5.out.below⟩
            case neg =>
              have HM2 := Lib.hid (under_some HM.out HDK.out HO.out (by rw [HX.out, HY.out]; exact hyx))
              have hdy : decide (y < x - 1) = false := decide_eq_false hyx
              go_upto_region 7 with (fail)
              go_quiet (fail)
              have HS5 := Lib.hid (HS.out.drewN nq)
              go_wp2
              go_roundw
              case rel => exact ⟨m + 1, by omega, by go_num, HM2, HS5.out⟩
              case measure => simp [intOf]; omega
        · have HM2 : Hid (underTo ds xs (k + 1) 0) := Lib.hid (under_next (by rw [← show m = 32 by omega]; exact HM.out))
          go_wp2
          go_roundw
          case rel => exact ⟨k + 1, by omega, by go_num, HM2, HS.out⟩
          case measure => simp [intOf]; omega
    · have HF : Hid (underOk ds xs) := Lib.hid (under_all (by rw [HL.out, ← show k = n by omega]; exact HM.out))
      go_wp2
      go_ret
      exact ⟨by rw [HDE.out]; exact Or.inl ⟨HF.out, rfl⟩, HS.out.below⟩
end Go.Proofs.YtkimgdfcgfhibaaDoor

/- agreeing of the program. -/
namespace Go.Proofs.YtkimgdfcgfhibaaDoor
set_option linter.unusedVariables false
set_option linter.unusedSimpArgs false
open Go.ChangeShapes Go.WideShapes Go.ChangeAt Go.RowKit

/-- of the first k states one is in the set and agrees with s -/
def agT (F : Nat) (S : Nat → Bool) (k s : Nat) : Bool := (List.range k).any fun o => S o && (s &&& F == o &&& F)
def agP (F : Nat) (S : Nat → Bool) (m k : Nat) (s : Nat) : Bool := upto (agr F S) m s || (decide (m = s) && agT F S k m)
end Go.Proofs.YtkimgdfcgfhibaaDoor
