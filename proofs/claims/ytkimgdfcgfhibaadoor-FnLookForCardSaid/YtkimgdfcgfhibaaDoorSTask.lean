/- Tasks in memory, and TaskValid of the program and of the reference. -/
import Derived.Test.YtkimgdfcgfhibaaDoorSDeed
namespace Go.Proofs.YtkimgdfcgfhibaaDoor
open Go.ChangeShapes Go.WideShapes Go.ChangeAt Go.RowKit

/-- in w, below block B, the four cells at (b, o) read as this deed -/
def RdDAtM (M : Nat) (w : World) (B b o : Nat) (d : DeedD) : Prop :=
  ∃ A n c, w.cell? ⟨b, o, none⟩ = some (.slice A n c) ∧ w.cell? ⟨b, o + 1, none⟩ = some (.int .i64 d.on) ∧ w.cell? ⟨b, o + 2, none⟩ = some (.int .i64 d.off) ∧ w.cell? ⟨b, o + 3, none⟩ = some (.int .i64 d.flip) ∧
    RdI .i64 w B A n c d.need ∧ n ≤ M ∧ (Lit.int .i64 d.on).wf = true ∧ (Lit.int .i64 d.off).wf = true ∧ (Lit.int .i64 d.flip).wf = true
/-- in w, below block B, the slice at A with n deeds reads as these -/
structure RdDsM (M : Nat) (w : World) (B : Nat) (A : Option Addr) (n c : Nat) (ds : List DeedD) : Prop where
  len : ds.length = n
  cap : n ≤ c
  capMax : c ≤ maxLen
  small : n ≤ M
  at_ : 0 < n → ∃ b off, A = some ⟨b, off, none⟩ ∧ b < B ∧ ∀ i d, ds[i]? = some d → RdDAtM M w B b (off + i * 4) d
/-- in w, below block B, v reads as this task -/
def RdTM (M : Nat) (w : World) (B : Nat) (v : Value) (t : TaskD) : Prop :=
  ∃ A n c A' n' c', v = .agg #[.int .i64 t.start, .slice A n c, .slice A' n' c'] ∧ RdI .i64 w B A n c t.goal ∧ n ≤ M ∧ RdDsM M w B A' n' c' t.deeds ∧ (Lit.int .i64 t.start).wf = true

abbrev RdDAt := RdDAtM 1048576
abbrev RdDs := RdDsM 1048576
abbrev RdT := RdTM 1048576

section
variable {M : Nat} {w w' : World} {B B' : Nat}
theorem RdDAtM.keep {b o : Nat} {d : DeedD} (h : RdDAtM M w B b o d) (hb : b < B) (hk : ∀ b o, b < B → w'.cell? ⟨b, o, none⟩ = w.cell? ⟨b, o, none⟩) : RdDAtM M w' B b o d := by
  obtain ⟨A, n, c, h0, h1, h2, h3, h4, r⟩ := h
  exact ⟨A, n, c, (hk _ _ hb).trans h0, (hk _ _ hb).trans h1, (hk _ _ hb).trans h2, (hk _ _ hb).trans h3, h4.keep hk, r⟩
theorem RdDAtM.more {b o : Nat} {d : DeedD} (h : RdDAtM M w B b o d) (hB : B ≤ B') : RdDAtM M w B' b o d := by
  obtain ⟨A, n, c, h0, h1, h2, h3, h4, r⟩ := h
  exact ⟨A, n, c, h0, h1, h2, h3, h4.more hB, r⟩
theorem RdDsM.keep {A : Option Addr} {n c : Nat} {ds : List DeedD} (h : RdDsM M w B A n c ds) (hk : ∀ b o, b < B → w'.cell? ⟨b, o, none⟩ = w.cell? ⟨b, o, none⟩) : RdDsM M w' B A n c ds :=
  ⟨h.len, h.cap, h.capMax, h.small, fun hn => by
    obtain ⟨b, off, e, hb, hc⟩ := h.at_ hn
    exact ⟨b, off, e, hb, fun i d hd => (hc i d hd).keep hb hk⟩⟩
theorem RdDsM.more {A : Option Addr} {n c : Nat} {ds : List DeedD} (h : RdDsM M w B A n c ds) (hB : B ≤ B') : RdDsM M w B' A n c ds :=
  ⟨h.len, h.cap, h.capMax, h.small, fun hn => by
    obtain ⟨b, off, e, hb, hc⟩ := h.at_ hn
    exact ⟨b, off, e, by omega, fun i d hd => (hc i d hd).more hB⟩⟩
theorem RdDsM.below {A : Option Addr} {n c : Nat} {ds : List DeedD} (h : RdDsM M w B A n c ds) (hb : Below B w w') : RdDsM M w' B A n c ds := h.keep (bcells hb)
theorem RdDsM.get {A : Option Addr} {n c : Nat} {ds : List DeedD} (h : RdDsM M w B A n c ds) {i : Nat} (hi : i < n) : ∃ b off d, A = some ⟨b, off, none⟩ ∧ b < B ∧ ds[i]? = some d ∧ RdDAtM M w B b (off + i * 4) d := by
  obtain ⟨b, off, e, hb, hc⟩ := h.at_ (by omega)
  have hl : i < ds.length := by rw [h.len]; exact hi
  exact ⟨b, off, ds[i], e, hb, List.getElem?_eq_getElem hl, hc i _ (List.getElem?_eq_getElem hl)⟩
theorem RdTM.keep {v : Value} {t : TaskD} (h : RdTM M w B v t) (hk : ∀ b o, b < B → w'.cell? ⟨b, o, none⟩ = w.cell? ⟨b, o, none⟩) : RdTM M w' B v t := by
  obtain ⟨A, n, c, A', n', c', e, h1, h2, h3, h4⟩ := h
  exact ⟨A, n, c, A', n', c', e, h1.keep hk, h2, h3.keep hk, h4⟩
theorem RdTM.more {v : Value} {t : TaskD} (h : RdTM M w B v t) (hB : B ≤ B') : RdTM M w B' v t := by
  obtain ⟨A, n, c, A', n', c', e, h1, h2, h3, h4⟩ := h
  exact ⟨A, n, c, A', n', c', e, h1.more hB, h2, h3.more hB, h4⟩
theorem RdTM.below {v : Value} {t : TaskD} (h : RdTM M w B v t) (hb : Below B w w') : RdTM M w' B v t := h.keep (bcells hb)
/-- over a step that leaves all that was there, up to the new top -/
theorem RdTM.up {v : Value} {t : TaskD} (h : RdTM M w w.heap.size v t) (hb : Below w.heap.size w w') : RdTM M w' w'.heap.size v t := (h.below hb).more hb.size
theorem RdI.up {k : IntKind} {A : Option Addr} {n c : Nat} {xs : List Int} (h : RdI k w w.heap.size A n c xs) (hb : Below w.heap.size w w') : RdI k w' w'.heap.size A n c xs := (h.below hb).more hb.size
theorem RdDsM.up {A : Option Addr} {n c : Nat} {ds : List DeedD} (h : RdDsM M w w.heap.size A n c ds) (hb : Below w.heap.size w w') : RdDsM M w' w'.heap.size A n c ds := (h.below hb).more hb.size
end

theorem taskOk_deed (t : TaskD) (k : Nat) (d : DeedD) (hd : t.deeds[k]? = some d) (h : deedOk d = false) : taskOk t = false := by
  unfold taskOk
  have : t.deeds.all deedOk = false := by rw [List.all_eq_false]; exact ⟨d, List.mem_of_getElem? hd, by rw [h]; simp⟩
  rw [this]; simp
theorem taskOk_all (t : TaskD) (h1 : stIn t.start = true) (h2 : codeOk t.goal = true) (h3 : t.deeds.length ≤ 6) (h4 : ∀ (k : Nat) (d : DeedD), t.deeds[k]? = some d → deedOk d = true) : taskOk t = true := by
  unfold taskOk
  rw [h1, h2, decide_eq_true h3]
  simp only [Bool.true_and, List.all_eq_true]
  exact fun d hd => by obtain ⟨k, hk⟩ := List.mem_iff_getElem?.1 hd; exact h4 k d hk

theorem taskValid_impl (v : Value) (t : TaskD) (w : World) (h : RdT w w.heap.size v t) :
    Calls Tryd.prog 37 #[v] w fun e w' => e = .returned (.bool (taskOk t)) ∧ Below w.heap.size w w' := by
  obtain ⟨A, n, c, A', n', c', rfl, hg, hgs, hds, hst⟩ := h
  have hb0 : Below w.heap.size w (w.alloc (Obj.cells #[.int .i64 t.start, .slice A n c, .slice A' n' c'] 26)) := (Below.refl _ _).alloc (Nat.le_refl _) _
  have HG := Lib.hid (hg.up hb0)
  have hdl := hds.len
  have hdc := hds.cap
  have hdm := hds.capMax
  have hdsm := hds.small
  unfold maxLen at hdm
  obtain ⟨bs, h1⟩ : ∃ b, stIn t.start = b := ⟨_, rfl⟩
  obtain ⟨bg, h2⟩ : ∃ b, codeOk t.goal = b := ⟨_, rfl⟩
  have H1 := Lib.hid h1
  have H2 := Lib.hid h2
  have HDL := Lib.hid hdl
  have HB0 := Lib.hid hb0
  clear h1 h2 hdl hb0
  go_enter Tryd.func37, Tryd.ntmps37
  go_wp2_with fail
  refine (stateOk_any _ _).mono ?_
  rw [H1.out]
  rintro e w' ⟨rfl, rfl⟩
  cases bs
  · have HV : Hid (taskOk t = false) := Lib.hid (by unfold taskOk; rw [H1.out]; simp)
    go_wp2
    go_ret
    exact ⟨by rw [HV.out]; rfl, HB0.out⟩
  go_wp2_with fail
  refine (codeValid_impl _ _ _ _ _ HG.out).mono ?_
  rw [H2.out]
  rintro e w' ⟨rfl, rfl⟩
  cases bg
  · have HV : Hid (taskOk t = false) := Lib.hid (by unfold taskOk; rw [H2.out]; simp)
    go_wp2
    go_ret
    exact ⟨by rw [HV.out]; rfl, HB0.out⟩
  by_cases h6 : n' ≤ 6
  case neg =>
    have HV : Hid (taskOk t = false) := Lib.hid (by unfold taskOk; rw [decide_eq_false (by rw [HDL.out]; exact h6)]; simp)
    go_wp2
    go_ret
    exact ⟨by rw [HV.out]; rfl, HB0.out⟩
  go_wp2
  go_loopw [24] (fun i wr => ∃ k : Nat, k ≤ n' ∧ i = .int .i64 k ∧ Hid (∀ (j : Nat) (d : DeedD), j < k → t.deeds[j]? = some d → deedOk d = true) ∧ Below w.heap.size w wr) (fun i _ => n' - (intOf i).toNat)
  case atStart => exact ⟨0, by omega, rfl, Lib.hid (by omega), HB0.out⟩
  case round =>
    obtain ⟨k, hk, rfl, hpre, hbel⟩ := hrel
    by_cases hlt : k < n'
    · obtain ⟨b, off, d, rfl, hb, hd, hda⟩ := hds.get hlt
      obtain ⟨An, nn, cn, q0, q1, q2, q3, hneed, -⟩ := (hda.keep hb (bcells hbel))
      have HD := Lib.hid hd
      clear hd hda
      go_wp2_with fail
      have hal : Below wr.heap.size wr (wr.alloc (Obj.cells #[Value.slice An nn cn, Value.int IntKind.i64 d.on, Value.int IntKind.i64 d.off, Value.int IntKind.i64 d.flip] 85)) := (Below.refl _ _).alloc (Nat.le_refl _) _
      refine (deedValid_impl An nn cn d _ (((hneed.more hbel.size).below hal).more hal.size)).mono ?_
      rintro e w2 ⟨rfl, hb2⟩
      have hbel2 : Below w.heap.size w w2 := hbel.trans ((hal.trans (hb2.mono hal.size)).mono hbel.size)
      clear hal hb2 q0 q1 q2 q3
      obtain ⟨bd, hdk⟩ : ∃ b, deedOk d = b := ⟨_, rfl⟩
      rw [hdk]
      have HDK := Lib.hid hdk
      clear hdk
      cases bd
      · have HV := Lib.hid (taskOk_deed t k d HD.out HDK.out)
        go_wp2
        go_ret
        exact ⟨by rw [HV.out]; rfl, hbel2⟩
      · go_wp2
        go_roundw
        case rel => exact ⟨k + 1, by omega, by go_num, Lib.hid (fun j e hj he => by
          rcases Nat.lt_or_ge j k with h1 | h1
          · exact hpre.out j e h1 he
          · obtain rfl : j = k := by omega
            have := he.symm.trans HD.out
            injection this with this
            subst this
            exact HDK.out), hbel2⟩
        case measure => simp [intOf]; omega
    · have HV := Lib.hid (taskOk_all t H1.out H2.out (by rw [HDL.out]; exact h6) (fun j d hd => hpre.out j d (by have := (List.getElem?_eq_some_iff.1 hd).1; have := HDL.out; omega) hd))
      go_wp2
      go_ret
      exact ⟨by rw [HV.out]; rfl, hbel⟩
theorem taskValid_spec (v : Value) (t : TaskD) (w : World) (h : RdT w w.heap.size v t) :
    Calls Tryd.prog 55 #[v] w fun e w' => e = .returned (.bool (taskOk t)) ∧ Below w.heap.size w w' := by
  obtain ⟨A, n, c, A', n', c', rfl, hg, hgs, hds, hst⟩ := h
  have hb0 : Below w.heap.size w (w.alloc (Obj.cells #[.int .i64 t.start, .slice A n c, .slice A' n' c'] 26)) := (Below.refl _ _).alloc (Nat.le_refl _) _
  have hk0 := Blk.new w 26 #[.int .i64 t.start, .slice A n c, .slice A' n' c']
  have hdl := hds.len
  have hdc := hds.cap
  have hdm := hds.capMax
  have hdsm := hds.small
  unfold maxLen at hdm
  have HDL := Lib.hid hdl
  clear hdl
  go_enter Tryd.func55, Tryd.ntmps55
  go_wp2
  go_loopw [3] (fun i wr => ∃ k : Nat, k ≤ n' ∧ i = .int .i64 k ∧ Hid (∀ (j : Nat) (d : DeedD), j < k → t.deeds[j]? = some d → deedOk d = true) ∧ Blk wr w.heap.size 26 #[.int .i64 t.start, .slice A n c, .slice A' n' c'] ∧ Below w.heap.size w wr) (fun i _ => n' - (intOf i).toNat)
  case atStart => exact ⟨0, by omega, rfl, Lib.hid (by omega), hk0, hb0⟩
  case round =>
    obtain ⟨k, hk, rfl, hpre, hblk, hbel⟩ := hrel
    have p0 : wr.cell? ⟨w.heap.size, 0, none⟩ = some (.int .i64 t.start) := hblk.cell 0
    have p1 : wr.cell? ⟨w.heap.size, 1, none⟩ = some (.slice A n c) := hblk.cell 1
    have p2 : wr.cell? ⟨w.heap.size, 2, none⟩ = some (.slice A' n' c') := hblk.cell 2
    by_cases hlt : k < n'
    · obtain ⟨b, off, d, rfl, hb, hd, hda⟩ := hds.get hlt
      obtain ⟨An, nn, cn, q0, q1, q2, q3, hneed, hnn, -⟩ := (hda.keep hb (bcells hbel))
      have HD := Lib.hid hd
      clear hd hda
      go_wp2_with fail
      refine (deedValid_spec An nn cn d _ (hneed.more hbel.size) (by omega)).mono ?_
      rintro e w2 ⟨rfl, hb2⟩
      have hbel2 : Below w.heap.size w w2 := hbel.trans (hb2.mono hbel.size)
      have hblk2 := hblk.below hb2 hblk.lt
      clear hb2 q0 q1 q2 q3 p0 p1 p2 hblk
      obtain ⟨bd, hdk⟩ : ∃ b, deedOk d = b := ⟨_, rfl⟩
      rw [hdk]
      have HDK := Lib.hid hdk
      clear hdk
      cases bd
      · have HV := Lib.hid (taskOk_deed t k d HD.out HDK.out)
        go_wp2
        go_ret
        exact ⟨by rw [HV.out]; rfl, hbel2⟩
      · go_wp2
        go_roundw
        case rel => exact ⟨k + 1, by omega, by go_num, Lib.hid (fun j e hj he => by
          rcases Nat.lt_or_ge j k with h1 | h1
          · exact hpre.out j e h1 he
          · obtain rfl : j = k := by omega
            have := he.symm.trans HD.out
            injection this with this
            subst this
            exact HDK.out), hblk2, hbel2⟩
        case measure => simp [intOf]; omega
    · obtain ⟨bs, h1⟩ : ∃ b, stIn t.start = b := ⟨_, rfl⟩
      obtain ⟨bg, h2⟩ : ∃ b, codeOk t.goal = b := ⟨_, rfl⟩
      have H1 := Lib.hid h1
      have H2 := Lib.hid h2
      clear h1 h2
      go_wp2_with fail
      cases bs
      · have HV : Hid (taskOk t = false) := Lib.hid (by unfold taskOk; rw [H1.out]; simp)
        refine (l1In_no _ _ _ _ (by have := (stIn_no _).1 H1.out; omega)).mono ?_
        rintro e w' ⟨rfl, rfl⟩
        go_wp2
        go_ret
        exact ⟨by rw [HV.out]; rfl, hbel⟩
      refine (l1In_yes _ _ _ _ ((stIn_iff _).1 H1.out).1 (by have := ((stIn_iff _).1 H1.out).2; omega)).mono ?_
      rintro e w' ⟨rfl, rfl⟩
      go_wp2_with fail
      refine (codeValid_spec _ _ _ t.goal _ ((hg.below hbel).more hbel.size) (by omega)).mono ?_
      rw [H2.out]
      rintro e w' ⟨rfl, rfl⟩
      cases bg
      · have HV : Hid (taskOk t = false) := Lib.hid (by unfold taskOk; rw [H2.out]; simp)
        go_wp2
        go_ret
        exact ⟨by rw [HV.out]; rfl, hbel⟩
      by_cases h6 : n' ≤ 6
      · have HV := Lib.hid (taskOk_all t H1.out H2.out (by rw [HDL.out]; exact h6) (fun j d hd => hpre.out j d (by have := (List.getElem?_eq_some_iff.1 hd).1; have := HDL.out; omega) hd))
        go_wp2
        go_ret
        exact ⟨by rw [HV.out]; exact ret_bool (decide_eq_true (show (n' : Int) ≤ 6 by omega)), hbel⟩
      · have HV : Hid (taskOk t = false) := Lib.hid (by unfold taskOk; rw [decide_eq_false (by rw [HDL.out]; exact h6)]; simp)
        go_wp2
        go_ret
        exact ⟨by rw [HV.out]; exact ret_bool (decide_eq_false (show ¬ (n' : Int) ≤ 6 by omega)), hbel⟩
end Go.Proofs.YtkimgdfcgfhibaaDoor
