/- Joined texts: Eq, Mark. -/
import Derived.Test.YtkebgldeahklmaaSTask
import Derived.Test.YtkebgldeahklmaaSPart
import Derived.StillTailTactics
import Derived.Test.YtkebgldeahklmaaSPure
/- The laws' helpers that compare: eqDeed, eqDeedS, eqTask: each tells whether the data are the same. -/
namespace Go.Proofs.Ytkebgldeahklmaa
open Go.ChangeShapes Go.WideShapes Go.ChangeAt Go.RowKit

theorem eqDeed_any (A : Option Addr) (n c : Nat) (d : DeedD) (A' : Option Addr) (n' c' : Nat) (d' : DeedD) (w : World) (h : RdI .i64 w w.heap.size A n c d.need) (h' : RdI .i64 w w.heap.size A' n' c' d'.need) :
    Calls Try.prog 128 #[.agg #[.slice A n c, .int .i64 d.on, .int .i64 d.off, .int .i64 d.flip], .agg #[.slice A' n' c', .int .i64 d'.on, .int .i64 d'.off, .int .i64 d'.flip]] w fun e w' => e = .returned (.bool (decide (d = d'))) ∧ Below w.heap.size w w' := by
  obtain ⟨need, on, off, fl⟩ := d
  obtain ⟨need', on', off', fl'⟩ := d'
  simp only at h h' ⊢
  have hb0 : Below w.heap.size w ((w.alloc (Obj.cells #[.slice A n c, .int .i64 on, .int .i64 off, .int .i64 fl] 83)).alloc (Obj.cells #[.slice A' n' c', .int .i64 on', .int .i64 off', .int .i64 fl'] 83)) :=
    ((Below.refl _ _).alloc (Nat.le_refl _) _).alloc (by simp) _
  have HD : ∀ b : Bool, ((need = need' ∧ on = on' ∧ off = off' ∧ fl = fl') ↔ b = true) → Hid (decide ((⟨need, on, off, fl⟩ : DeedD) = ⟨need', on', off', fl'⟩) = b) := fun b hb => Lib.hid (by
    cases b
    · exact decide_eq_false (fun e => by injection e with e1 e2 e3 e4; exact absurd (hb.1 ⟨e1, e2, e3, e4⟩) (by simp))
    · have := hb.2 rfl
      exact decide_eq_true (by rw [this.1, this.2.1, this.2.2.1, this.2.2.2]))
  have HH := Lib.hid HD
  have H1 := Lib.hid (h.up hb0)
  have H2 := Lib.hid (h'.up hb0)
  have HB0 := Lib.hid hb0
  clear HD hb0
  go_enter Try.func128, Try.ntmps128
  go_wp2_with fail
  refine (eqIntS_any A n c need A' n' c' need' _ H1.out H2.out).mono ?_
  by_cases e1 : need = need'
  case neg =>
    have HV := HH.out false ⟨fun h => absurd h.1 e1, fun h => by cases h⟩
    rw [decide_eq_false e1]
    rintro e w1 ⟨rfl, q, rfl⟩
    go_wp2
    go_ret
    exact ⟨ret_bool HV.out.symm, below_drewN HB0.out _⟩
  rw [decide_eq_true e1]
  rintro e w1 ⟨rfl, q, rfl⟩
  by_cases e2 : on = on'
  case neg =>
    have HV := HH.out false ⟨fun h => absurd h.2.1 e2, fun h => by cases h⟩
    have hne : (on != on') = true := by rw [bne_iff_ne]; exact e2
    clear e1 e2
    go_wp2
    go_ret
    exact ⟨ret_bool HV.out.symm, below_drewN HB0.out _⟩
  by_cases e3 : off = off'
  case neg =>
    have HV := HH.out false ⟨fun h => absurd h.2.2.1 e3, fun h => by cases h⟩
    have hne : (off != off') = true := by rw [bne_iff_ne]; exact e3
    subst e2
    clear e1 e3
    go_wp2
    go_ret
    exact ⟨ret_bool HV.out.symm, below_drewN HB0.out _⟩
  by_cases e4 : fl = fl'
  case neg =>
    have HV := HH.out false ⟨fun h => absurd h.2.2.2 e4, fun h => by cases h⟩
    have hne : (fl != fl') = true := by rw [bne_iff_ne]; exact e4
    subst e2
    subst e3
    clear e1 e4
    go_wp2
    go_ret
    exact ⟨ret_bool HV.out.symm, below_drewN HB0.out _⟩
  have HV := HH.out true ⟨fun _ => rfl, fun _ => ⟨e1, e2, e3, e4⟩⟩
  subst e2
  subst e3
  subst e4
  clear e1
  go_wp2
  go_ret
  exact ⟨ret_bool HV.out.symm, below_drewN HB0.out _⟩

set_option maxRecDepth 100000 in
theorem eqDeedS_any (A : Option Addr) (n c : Nat) (ds : List DeedD) (A' : Option Addr) (n' c' : Nat) (ds' : List DeedD) (w : World) (h : RdDs w w.heap.size A n c ds) (h' : RdDs w w.heap.size A' n' c' ds') :
    Calls Try.prog 110 #[.slice A n c, .slice A' n' c'] w fun e w' => e = .returned (.bool (decide (ds = ds'))) ∧ Below w.heap.size w w' := by
  have hl := h.len
  have hl' := h'.len
  have hs := h.small
  by_cases hn : n = n'
  · subst hn
    have HL := Lib.hid hl; clear hl
    have HL' := Lib.hid hl'; clear hl'
    go_enter Try.func110, Try.ntmps110
    go_wp2
    go_loopw [5] (fun i wr => ∃ k : Nat, k ≤ n ∧ i = .int .i64 k ∧ Hid (∀ j, j < k → ds[j]? = ds'[j]?) ∧ Below w.heap.size w wr) (fun i _ => n - (intOf i).toNat)
    case atStart => exact ⟨0, by omega, rfl, Lib.hid (by omega), Below.refl _ _⟩
    case round =>
      obtain ⟨k, hk, rfl, hpre, hbel⟩ := hrel
      by_cases hlt : k < n
      · obtain ⟨b, off, d, rfl, hb, hd, hda⟩ := h.get hlt
        obtain ⟨b', off', d', rfl, hb', hd', hda'⟩ := h'.get hlt
        obtain ⟨An, nn, cn, q0, q1, q2, q3, hneed, hnn, -⟩ := (hda.keep hb (bcells hbel))
        obtain ⟨An', nn', cn', q0', q1', q2', q3', hneed', hnn', -⟩ := (hda'.keep hb' (bcells hbel))
        have HD := Lib.hid hd
        have HD' := Lib.hid hd'
        clear hd hda hd' hda'
        go_wp2
        go_still_tail 8, (by kernel_rfl)
        change wpList _ _ _ _ _ wr.drew
        go_wp2_with fail
        refine (eqDeed_any An nn cn d An' nn' cn' d' wr.drew ((hneed.more hbel.size).keep (fun _ _ _ => rfl)) ((hneed'.more hbel.size).keep (fun _ _ _ => rfl))).mono ?_
        by_cases he : d = d'
        · rw [decide_eq_true he]
          rintro e w2 ⟨rfl, hb2⟩
          have hb2' : Below wr.heap.size wr w2 := ((Below.refl _ _).drew).trans hb2
          have hbel2 := hbel.trans (hb2'.mono hbel.size)
          have HE := Lib.hid he
          clear he hb2 hb2'
          go_wp2
          go_roundw
          case rel => exact ⟨k + 1, by omega, by go_num, Lib.hid fun j hj => by
            rcases Nat.lt_or_ge j k with h1 | h1
            · exact hpre.out j h1
            · obtain rfl : j = k := by omega
              rw [HD.out, HD'.out, HE.out], hbel2⟩
          case measure => simp [intOf]; omega
        · rw [decide_eq_false he]
          rintro e w2 ⟨rfl, hb2⟩
          have hb2' : Below wr.heap.size wr w2 := ((Below.refl _ _).drew).trans hb2
          have hbel2 := hbel.trans (hb2'.mono hbel.size)
          have HF : Hid (decide (ds = ds') = false) := Lib.hid (decide_eq_false fun e => by
            have h1 := HD.out
            rw [e, HD'.out] at h1
            injection h1 with h1
            exact he h1.symm)
          clear he hb2 hb2'
          go_wp2
          go_ret
          exact ⟨ret_bool HF.out.symm, hbel2⟩
      · have HT : Hid (decide (ds = ds') = true) := Lib.hid (decide_eq_true (List.ext_getElem? fun j => by
          rcases Nat.lt_or_ge j k with h1 | h1
          · exact hpre.out j h1
          · rw [List.getElem?_eq_none (by rw [HL.out]; omega), List.getElem?_eq_none (by rw [HL'.out]; omega)]))
        go_wp2
        go_ret
        exact ⟨ret_bool HT.out.symm, hbel⟩
  · have HF : Hid (decide (ds = ds') = false) := Lib.hid (decide_eq_false fun e => hn (by rw [← hl, ← hl', e]))
    have hne : ((n : Int) != (n' : Int)) = true := by rw [bne_iff_ne]; omega
    clear hl hl'
    go_enter Try.func110, Try.ntmps110
    go_wp2
    go_ret
    exact ⟨ret_bool HF.out.symm, Below.refl _ _⟩

theorem eqTask_any (v : Value) (t : TaskD) (v' : Value) (t' : TaskD) (w : World) (h : RdT w w.heap.size v t) (h' : RdT w w.heap.size v' t') :
    Calls Try.prog 73 #[v, v'] w fun e w' => e = .returned (.bool (decide (t = t'))) ∧ Below w.heap.size w w' := by
  obtain ⟨A, n, c, B, m, b, rfl, hg, hgs, hds, hst⟩ := h
  obtain ⟨A', n', c', B', m', b', rfl, hg', hgs', hds', hst'⟩ := h'
  have hb0 : Below w.heap.size w ((w.alloc (Obj.cells #[.int .i64 t.start, .slice A n c, .slice B m b] 26)).alloc (Obj.cells #[.int .i64 t'.start, .slice A' n' c', .slice B' m' b'] 26)) :=
    ((Below.refl _ _).alloc (Nat.le_refl _) _).alloc (by simp) _
  have HH : Hid (∀ b : Bool, ((t.start = t'.start ∧ t.goal = t'.goal ∧ t.deeds = t'.deeds) ↔ b = true) → Hid (decide (t = t') = b)) := Lib.hid fun b hb => Lib.hid (by
    cases b
    · exact decide_eq_false (fun e => absurd (hb.1 (by rw [e]; exact ⟨rfl, rfl, rfl⟩)) (by simp))
    · have := hb.2 rfl
      exact decide_eq_true (TaskD.ext' this.1 this.2.1 this.2.2))
  have H1 := Lib.hid (hg.up hb0)
  have H2 := Lib.hid (hg'.up hb0)
  have H3 := Lib.hid (hds.up hb0)
  have H4 := Lib.hid (hds'.up hb0)
  have HB0 := Lib.hid hb0
  clear hb0
  by_cases e1 : t.start = t'.start
  case neg =>
    have HV := HH.out false ⟨fun h => absurd h.1 e1, fun h => by cases h⟩
    have hne : (t.start != t'.start) = true := by rw [bne_iff_ne]; exact e1
    clear e1
    go_enter Try.func73, Try.ntmps73
    go_wp2
    go_ret
    exact ⟨ret_bool HV.out.symm, HB0.out⟩
  have E1 := Lib.hid e1
  have hne : (t.start != t'.start) = false := by rw [e1]; simp
  clear e1
  go_enter Try.func73, Try.ntmps73
  go_wp2_with fail
  refine (eqIntS_any A n c t.goal A' n' c' t'.goal _ H1.out H2.out).mono ?_
  by_cases e2 : t.goal = t'.goal
  case neg =>
    have HV := HH.out false ⟨fun h => absurd h.2.1 e2, fun h => by cases h⟩
    rw [decide_eq_false e2]
    rintro e w1 ⟨rfl, q, rfl⟩
    go_wp2
    go_ret
    exact ⟨ret_bool HV.out.symm, below_drewN HB0.out _⟩
  rw [decide_eq_true e2]
  rintro e w1 ⟨rfl, q, rfl⟩
  have E2 := Lib.hid e2
  clear e2
  go_wp2_with fail
  refine (eqDeedS_any B m b t.deeds B' m' b' t'.deeds _ (H3.out.up (below_drewN (Below.refl _ _) _)) (H4.out.up (below_drewN (Below.refl _ _) _))).mono ?_
  by_cases e3 : t.deeds = t'.deeds
  · have HV := HH.out true ⟨fun _ => rfl, fun _ => ⟨E1.out, E2.out, e3⟩⟩
    rw [decide_eq_true e3]
    rintro e w2 ⟨rfl, hb2⟩
    go_wp2
    go_ret
    exact ⟨ret_bool HV.out.symm, (below_drewN HB0.out q).trans (hb2.mono (below_drewN HB0.out q).size)⟩
  · have HV := HH.out false ⟨fun h => absurd h.2.2 e3, fun h => by cases h⟩
    rw [decide_eq_false e3]
    rintro e w2 ⟨rfl, hb2⟩
    go_wp2
    go_ret
    exact ⟨ret_bool HV.out.symm, (below_drewN HB0.out q).trans (hb2.mono (below_drewN HB0.out q).size)⟩
end Go.Proofs.Ytkebgldeahklmaa

/- The laws' helpers that mark what a call handed back, and look whether the marks stand: markIntS, heldIntS, markDeedS, heldDeedS, markTask, heldTask. -/
namespace Go.Proofs.Ytkebgldeahklmaa
open Go.ChangeShapes Go.WideShapes Go.ChangeAt Go.RowKit

def marks (k n : Nat) : List Int := (List.range n).map fun i => ((k + i : Nat) : Int)
@[simp] theorem marks_len (k n : Nat) : (marks k n).length = n := by simp [marks]
theorem marks_get (k n i : Nat) (h : i < n) : (marks k n)[i]? = some ((k + i : Nat) : Int) := by unfold marks; rw [List.getElem?_map, List.getElem?_range h]; rfl
theorem marks_wf (k n : Nat) (hk : k + n ≤ 9223372036854775807) : ∀ x ∈ marks k n, (Lit.int .i64 x).wf = true := by
  intro x hx
  unfold marks at hx
  obtain ⟨i, hi, rfl⟩ := List.mem_map.1 hx
  have := List.mem_range.1 hi
  exact wf_i64_mk (by omega)
/-- the first i numbers marked -/
def mixI (k : Nat) (xs : List Int) (i : Nat) : List Int := marks k i ++ xs.drop i
theorem mixI_len (k : Nat) (xs : List Int) (i : Nat) (h : i ≤ xs.length) : (mixI k xs i).length = xs.length := by simp [mixI]; omega
theorem mixI_zero (k : Nat) (xs : List Int) : mixI k xs 0 = xs := by simp [mixI, marks]
theorem mixI_done (k : Nat) (xs : List Int) : mixI k xs xs.length = marks k xs.length := by simp [mixI]
theorem mixI_step (k : Nat) (xs : List Int) (i : Nat) (h : i < xs.length) : (mixI k xs i).set i ((k + i : Nat) : Int) = mixI k xs (i + 1) := by
  unfold mixI
  rw [List.set_append_right _ _ (by simp), marks_len, Nat.sub_self, List.drop_eq_getElem_cons h, List.set_cons_zero]
  have : marks k (i + 1) = marks k i ++ [((k + i : Nat) : Int)] := by simp [marks, List.range_succ]
  rw [this]; simp

theorem markIntS_any (lo : Nat) (v : Value) (xs : List Int) (F : List Nat) (k : Nat) (w : World) (h : OwnI w lo v xs F) (hk : k ≤ 1099511627776) (hs : xs.length ≤ 1048576) :
    Calls Try.prog 76 #[v, .int .i64 k] w fun e w' => e = .returned (.int .i64 (k + xs.length : Nat)) ∧ OwnI w' lo v (marks k xs.length) F ∧ Only F w w' := by
  obtain ⟨A, c, hv⟩ := own_form h.row
  subst hv
  have hrd := rdI_own h.row h.wf
  have hcap := hrd.cap
  have hcm := hrd.capMax
  unfold maxLen at hcm
  have hfoot := h.foot
  go_enter Try.func76, Try.ntmps76
  go_wp2
  go_loopw [5, 1] (fun i kk wr => ∃ j : Nat, j ≤ xs.length ∧ i = .int .i64 j ∧ kk = .int .i64 (k + j : Nat) ∧ wr.ownsRow lo 3 1 (.slice A xs.length c) xs.length (ints (mixI k xs j)) ∧ Only F w wr) (fun i _ _ => xs.length - (intOf i).toNat)
  case atStart => exact ⟨0, by omega, rfl, rfl, by rw [mixI_zero]; exact h.row, Only.refl _ _⟩
  case round =>
    obtain ⟨j, hj, rfl, rfl, hown, hon⟩ := hrel
    by_cases hlt : j < xs.length
    · obtain ⟨g, cap, hv, hg, _, _⟩ := own_some hown (by omega)
      simp only [Value.slice.injEq] at hv
      obtain ⟨rfl, -, rfl⟩ := hv
      have hml := mixI_len k xs j hj
      have hcl : wr.cell? ⟨g, j, none⟩ = (ints (mixI k xs j))[j]? := hown.cellAt j (by omega)
      obtain ⟨u, hu⟩ : ∃ u, (ints (mixI k xs j))[j]? = some u := ⟨(ints (mixI k xs j))[j]'(by simp; omega), List.getElem?_eq_getElem _⟩
      rw [hu] at hcl
      have hfr : wr.frozen? ⟨g, j, none⟩ = false := hown.frozenAt j
      have HST : Hid ((wr.setCell ⟨g, j, none⟩ (.int .i64 (k + j : Nat))).ownsRow lo 3 1 (.slice (some ⟨g, 0, none⟩) xs.length c) xs.length (ints (mixI k xs (j + 1)))) := Lib.hid (by
        have := (hown.stored j (.int .i64 (k + j : Nat))).1
        have e : (ints (mixI k xs j)).set j (.int .i64 (k + j : Nat)) = ints (mixI k xs (j + 1)) := by
          rw [← mixI_step k xs j hlt]; unfold ints; rw [List.map_set]
        rwa [e] at this)
      have HON : Hid (Only F w (wr.setCell ⟨g, j, none⟩ (.int .i64 (k + j : Nat)))) := Lib.hid (hon.set (by rw [hfoot]; simp [Value.ownBlock]) _)
      clear hu hown hon hml
      go_wp2
      go_roundw
      case rel => exact ⟨j + 1, by omega, by go_num, by go_num, HST.out, HON.out⟩
      case measure => simp [intOf]; omega
    · have hjn : j = xs.length := by omega
      have HJ := Lib.hid hjn
      clear hjn
      go_wp2
      go_ret
      refine ⟨by rw [← HJ.out]; rfl, ⟨?_, marks_wf _ _ (by omega), hfoot⟩, hon⟩
      rw [HJ.out, mixI_done] at hown
      rw [marks_len]; exact hown

theorem heldIntS_any (A : Option Addr) (n c k : Nat) (w : World) (h : RdI .i64 w w.heap.size A n c (marks k n)) (hk : k ≤ 1099511627776) (hs : n ≤ 1048576) :
    Calls Try.prog 78 #[.slice A n c, .int .i64 k] w fun e w' => e = .returned (.int .i64 (k + n : Nat)) ∧ w = w' := by
  have hcap := h.cap
  have hcm := h.capMax
  unfold maxLen at hcm
  go_enter Try.func78, Try.ntmps78
  go_wp2
  go_loop [5, 1] (fun i kk => ∃ j : Nat, j ≤ n ∧ i = .int .i64 j ∧ kk = .int .i64 (k + j : Nat)) (fun i _ => n - (intOf i).toNat)
  case atStart => exact ⟨0, by omega, rfl, rfl⟩
  case round =>
    obtain ⟨j, hj, rfl, rfl⟩ := hrel
    by_cases hlt : j < n
    · obtain ⟨b, off, x, rfl, hb, hx, hw, hc⟩ := h.get hlt
      have hxe : x = ((k + j : Nat) : Int) := by have := hx.symm.trans (marks_get k n j hlt); injection this
      subst hxe
      clear hx
      go_wp2
      go_round
      case rel => exact ⟨j + 1, by omega, by go_num, by go_num⟩
      case measure => simp [intOf]; omega
    · have hjn : j = n := by omega
      have HJ := Lib.hid hjn
      clear hjn
      go_wp2
      go_ret
      exact ⟨by rw [← HJ.out]; rfl, rfl⟩
def markD (k : Nat) (d : DeedD) : DeedD := ⟨marks k d.need.length, ((k + d.need.length : Nat) : Int), ((k + d.need.length + 1 : Nat) : Int), ((k + d.need.length + 2 : Nat) : Int)⟩
def mkD (d : DeedD) : Nat := d.need.length + 3
def mkDs (ds : List DeedD) : Nat := (ds.map mkD).sum
/-- the mark at which the deed at i begins -/
def markAt (k : Nat) (ds : List DeedD) (i : Nat) : Nat := k + ((ds.take i).map mkD).sum
def markDs (k : Nat) : List DeedD → List DeedD
  | [] => []
  | d :: ds => markD k d :: markDs (k + mkD d) ds
theorem markDs_len (k : Nat) (ds : List DeedD) : (markDs k ds).length = ds.length := by
  induction ds generalizing k with
  | nil => rfl
  | cons d ds ih => simp [markDs, ih]
theorem markDs_get (k : Nat) (ds : List DeedD) (i : Nat) (d : DeedD) (hd : ds[i]? = some d) : (markDs k ds)[i]? = some (markD (markAt k ds i) d) := by
  induction ds generalizing k i with
  | nil => simp at hd
  | cons e ds ih =>
    cases i with
    | zero => simp only [List.getElem?_cons_zero, Option.some.injEq] at hd; subst hd; simp [markDs, markAt]
    | succ i =>
      simp only [List.getElem?_cons_succ] at hd
      simp only [markDs, List.getElem?_cons_succ]
      rw [ih (k + mkD e) i hd]
      simp [markAt, Nat.add_assoc]
theorem markAt_step (k : Nat) (ds : List DeedD) (i : Nat) (d : DeedD) (hd : ds[i]? = some d) : markAt k ds (i + 1) = markAt k ds i + mkD d := by
  obtain ⟨h, he⟩ := List.getElem?_eq_some_iff.1 hd
  unfold markAt
  rw [List.take_succ_eq_append_getElem h, he]; simp [Nat.add_assoc]
theorem markAt_all (k : Nat) (ds : List DeedD) : markAt k ds ds.length = k + mkDs ds := by unfold markAt mkDs; rw [List.take_length]
theorem markAt_le (k : Nat) (ds : List DeedD) (i : Nat) : markAt k ds i ≤ k + mkDs ds := by
  unfold markAt mkDs
  have : (ds.map mkD).sum = ((ds.take i).map mkD).sum + ((ds.drop i).map mkD).sum := by rw [← List.sum_append, ← List.map_append, List.take_append_drop]
  omega
/-- the first i deeds marked -/
def mixD (k : Nat) (ds : List DeedD) (i : Nat) : List DeedD := (markDs k ds).take i ++ ds.drop i
theorem mixD_len (k : Nat) (ds : List DeedD) (i : Nat) (h : i ≤ ds.length) : (mixD k ds i).length = ds.length := by simp [mixD, markDs_len]; omega
theorem mixD_zero (k : Nat) (ds : List DeedD) : mixD k ds 0 = ds := by simp [mixD]
theorem mixD_done (k : Nat) (ds : List DeedD) : mixD k ds ds.length = markDs k ds := by
  unfold mixD; rw [List.take_of_length_le (by rw [markDs_len]; exact Nat.le_refl _), List.drop_length, List.append_nil]
theorem mixD_at (k : Nat) (ds : List DeedD) (i : Nat) (d : DeedD) (hd : ds[i]? = some d) : (mixD k ds i)[i]? = some d := by
  obtain ⟨h, he⟩ := List.getElem?_eq_some_iff.1 hd
  unfold mixD
  rw [List.getElem?_append_right (by simp; omega)]
  have : ((markDs k ds).take i).length = i := by rw [List.length_take, markDs_len]; omega
  rw [this, Nat.sub_self, List.getElem?_drop, Nat.add_zero]; exact hd
theorem mixD_step (k : Nat) (ds : List DeedD) (i : Nat) (d : DeedD) (hd : ds[i]? = some d) : (mixD k ds i).set i (markD (markAt k ds i) d) = mixD k ds (i + 1) := by
  obtain ⟨h, he⟩ := List.getElem?_eq_some_iff.1 hd
  have hl : ((markDs k ds).take i).length = i := by rw [List.length_take, markDs_len]; omega
  unfold mixD
  rw [List.set_append_right _ _ (by omega), hl, Nat.sub_self, List.drop_eq_getElem_cons h, List.set_cons_zero]
  have hm := markDs_get k ds i d hd
  obtain ⟨h2, h3⟩ := List.getElem?_eq_some_iff.1 hm
  rw [List.take_succ_eq_append_getElem h2, h3]; simp

def set3 (cells : List Value) (i : Nat) (a b c : Int) : List Value := ((cells.set (i * 4 + 1) (.int .i64 a)).set (i * 4 + 2) (.int .i64 b)).set (i * 4 + 3) (.int .i64 c)
theorem set3_other (cells : List Value) (i : Nat) (a b c : Int) (j : Nat) (h : j < i * 4 + 1 ∨ i * 4 + 4 ≤ j) : (set3 cells i a b c)[j]? = cells[j]? := by
  unfold set3; rw [List.getElem?_set_ne (by omega), List.getElem?_set_ne (by omega), List.getElem?_set_ne (by omega)]
theorem set3_at (cells : List Value) (i : Nat) (a b c : Int) (h : i * 4 + 3 < cells.length) : (set3 cells i a b c)[i * 4 + 1]? = some (.int .i64 a) ∧ (set3 cells i a b c)[i * 4 + 2]? = some (.int .i64 b) ∧ (set3 cells i a b c)[i * 4 + 3]? = some (.int .i64 c) := by
  unfold set3
  refine ⟨?_, ?_, ?_⟩
  · rw [List.getElem?_set_ne (by omega), List.getElem?_set_ne (by omega), List.getElem?_set_self (by omega)]
  · rw [List.getElem?_set_ne (by omega), List.getElem?_set_self (by simp; omega)]
  · rw [List.getElem?_set_self (by simp; omega)]

/-- one deed of a row of its own turned: its need in place, and its three sets -/
theorem OwnDs.turned {w w1 : World} {lo g n c : Nat} {ds : List DeedD} {F : List Nat} {cells : List Value} {Fs : List (List Nat)} (h : OwnDs w lo (.slice (some ⟨g, 0, none⟩) n c) ds F cells Fs) (hn : ds.length = n) (hnd : F.Nodup)
    (i : Nat) (d : DeedD) (hd : ds[i]? = some d) (nv : Value) (hnv : cells[i * 4]? = some nv) (Fi : List Nat) (hFi : Fs[i]? = some Fi) (e : DeedD) (hlen : e.need.length ≤ 1048576)
    (ho : OwnI w1 lo nv e.need Fi) (hon : Only Fi w w1) (hwf : (Lit.int .i64 e.on).wf = true ∧ (Lit.int .i64 e.off).wf = true ∧ (Lit.int .i64 e.flip).wf = true) :
    OwnDs (((w1.setCell ⟨g, i * 4 + 1, none⟩ (.int .i64 e.on)).setCell ⟨g, i * 4 + 2, none⟩ (.int .i64 e.off)).setCell ⟨g, i * 4 + 3, none⟩ (.int .i64 e.flip)) lo (.slice (some ⟨g, 0, none⟩) n c) (ds.set i e) F (set3 cells i e.on e.off e.flip) Fs ∧
    Only F w (((w1.setCell ⟨g, i * 4 + 1, none⟩ (.int .i64 e.on)).setCell ⟨g, i * 4 + 2, none⟩ (.int .i64 e.off)).setCell ⟨g, i * 4 + 3, none⟩ (.int .i64 e.flip)) := by
  subst hn
  have hi : i < ds.length := (List.getElem?_eq_some_iff.1 hd).1
  have hfoot := h.foot
  simp only [Value.ownBlock, Option.toList] at hfoot
  rw [hfoot] at hnd
  have hnd' := hnd
  rw [List.singleton_append, List.nodup_cons] at hnd
  obtain ⟨hgF, hflat⟩ := hnd
  have hgFi : g ∉ Fi := fun hx => hgF (mem_flat hFi hx)
  have hgw := h.row.lt g rfl
  have hrow1 : w1.ownsRow lo 83 4 (.slice (some ⟨g, 0, none⟩) ds.length c) ds.length cells := ownsRow_heap h.row fun b hb => by
    simp only [Value.ownBlock, Option.some.injEq] at hb
    subst hb
    exact hon.block _ hgw.2 hgFi
  have s1 := (hrow1.stored (i * 4 + 1) (.int .i64 e.on)).1
  have s2 := (s1.stored (i * 4 + 2) (.int .i64 e.off)).1
  have s3 := (s2.stored (i * 4 + 3) (.int .i64 e.flip)).1
  have hother : ∀ b, b ≠ g → (((w1.setCell ⟨g, i * 4 + 1, none⟩ (.int .i64 e.on)).setCell ⟨g, i * 4 + 2, none⟩ (.int .i64 e.off)).setCell ⟨g, i * 4 + 3, none⟩ (.int .i64 e.flip)).heap[b]? = w1.heap[b]? := fun b hb => by
    rw [Below.heap_setCell _ _ _ _ hb, Below.heap_setCell _ _ _ _ hb, Below.heap_setCell _ _ _ _ hb]
  have hcl : cells.length = ds.length * 4 := h.row.1
  refine ⟨⟨by rw [List.length_set]; exact s3, by rw [List.length_set]; exact h.small, by rw [List.length_set]; exact h.flen, h.foot, fun j d' Fj hd' hFj => ?_⟩, ?_⟩
  · by_cases hji : j = i
    · subst hji
      rw [List.getElem?_set_self hi] at hd'
      injection hd' with hd'
      subst hd'
      have := hFj.symm.trans hFi
      injection this with this
      subst this
      obtain ⟨c1, c2, c3⟩ := set3_at cells j e.on e.off e.flip (by omega)
      exact ⟨nv, (set3_other _ _ _ _ _ _ (by omega)).trans hnv, c1, c2, c3, ho.keep fun b hb => hother b (fun e => hgFi (by rw [← e]; exact hb)), hlen, hwf⟩
    · rw [List.getElem?_set_ne (by omega)] at hd'
      obtain ⟨nv', q0, q1, q2, q3, q4, r⟩ := h.deed j d' Fj hd' hFj
      refine ⟨nv', (set3_other _ _ _ _ _ _ (by omega)).trans q0, (set3_other _ _ _ _ _ _ (by omega)).trans q1, (set3_other _ _ _ _ _ _ (by omega)).trans q2, (set3_other _ _ _ _ _ _ (by omega)).trans q3, q4.keep fun b hb => ?_, r⟩
      have hbg : b ≠ g := fun e => hgF (by rw [← e]; exact mem_flat hFj hb)
      rw [hother b hbg]
      refine hon.block b (q4.lt b hb).2 fun hx => ?_
      -- b stands in two parts of a list without doubles
      have hj2 : j < Fs.length := (List.getElem?_eq_some_iff.1 hFj).1
      have hi2 : i < Fs.length := (List.getElem?_eq_some_iff.1 hFi).1
      have hp := List.pairwise_iff_getElem.1 (List.pairwise_flatten.1 hflat).2
      rcases Nat.lt_or_gt_of_ne hji with h1 | h1
      · exact hp j i hj2 hi2 h1 b (by rw [(List.getElem?_eq_some_iff.1 hFj).2]; exact hb) b (by rw [(List.getElem?_eq_some_iff.1 hFi).2]; exact hx) rfl
      · exact hp i j hi2 hj2 h1 b (by rw [(List.getElem?_eq_some_iff.1 hFi).2]; exact hx) b (by rw [(List.getElem?_eq_some_iff.1 hFj).2]; exact hb) rfl
  · have hsub : Only F w w1 := hon.sub fun x hx => by rw [h.foot]; exact List.mem_append_right _ (mem_flat hFi hx)
    have hgm : g ∈ F := by rw [h.foot]; simp [Value.ownBlock]
    exact ((hsub.set hgm _).set hgm _).set hgm _
end Go.Proofs.Ytkebgldeahklmaa
