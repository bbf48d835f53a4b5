/- Joined texts: Eq, Mark, Mark2. -/
import Derived.Test.YtkimgdfcgfhibaaDoorSTask
import Derived.Test.YtkimgdfcgfhibaaDoorSNum
import Derived.StillTailTactics
/- The laws' helpers that compare: eqDeed, eqDeedS, eqTask: each tells whether the data are the same. -/
namespace Go.Proofs.YtkimgdfcgfhibaaDoor
open Go.ChangeShapes Go.WideShapes Go.ChangeAt Go.RowKit

theorem eqDeed_any (A : Option Addr) (n c : Nat) (d : DeedD) (A' : Option Addr) (n' c' : Nat) (d' : DeedD) (w : World) (h : RdI .i64 w w.heap.size A n c d.need) (h' : RdI .i64 w w.heap.size A' n' c' d'.need) :
    Calls Tryd.prog 81 #[.agg #[.slice A n c, .int .i64 d.on, .int .i64 d.off, .int .i64 d.flip], .agg #[.slice A' n' c', .int .i64 d'.on, .int .i64 d'.off, .int .i64 d'.flip]] w fun e w' => e = .returned (.bool (decide (d = d'))) ∧ Below w.heap.size w w' := by
  obtain ⟨need, on, off, fl⟩ := d
  obtain ⟨need', on', off', fl'⟩ := d'
  simp only at h h' ⊢
  have hb0 : Below w.heap.size w ((w.alloc (Obj.cells #[.slice A n c, .int .i64 on, .int .i64 off, .int .i64 fl] 85)).alloc (Obj.cells #[.slice A' n' c', .int .i64 on', .int .i64 off', .int .i64 fl'] 85)) :=
    ((Below.refl _ _).alloc (Nat.le_refl _) _).alloc (by simp) _
  have HD : ∀ b : Bool, ((need = need' ∧ on = on' ∧ off = off' ∧ fl = fl') ↔ b = true) → Hid (decide ((⟨need, on, off, fl⟩ : DeedD) = ⟨need', on', off', fl'⟩) = b) := fun b hb => Lib.hid (by
    cases b
    · exact decide_eq_false (fun e => by injection e with e1 e2 e3 e4; exact absurd (hb.1 ⟨e1, e2, e3, e4⟩) (by simp))
    · have := hb.2 rfl
      exact decide_eq_true (by rw [this.1, this.2.1, this.2.2.1, this.2.2.2]))
  have HH := Lib.hid HD
  have H1 := Lib.hid (h.up hb0)
  have H2 := Lib.hid (h'.up hb0)
  have HB0 := Lib.hid hb0
  clear HD hb0
  go_enter Tryd.func81, Tryd.ntmps81
  go_wp2_with fail
  refine (eqIntS_any A n c need A' n' c' need' _ H1.out H2.out).mono ?_
  by_cases e1 : need = need'
  case neg =>
    have HV := HH.out false ⟨fun h => absurd h.1 e1, fun h => by cases h⟩
    rw [decide_eq_false e1]
    rintro e w1 ⟨rfl, q, rfl⟩
    go_wp2
    go_ret
    exact ⟨ret_bool HV.out.symm, below_drewN HB0.out _⟩
  rw [decide_eq_true e1]
  rintro e w1 ⟨rfl, q, rfl⟩
  by_cases e2 : on = on'
  case neg =>
    have HV := HH.out false ⟨fun h => absurd h.2.1 e2, fun h => by cases h⟩
    have hne : (on != on') = true := by rw [bne_iff_ne]; exact e2
    clear e1 e2
    go_wp2
    go_ret
    exact ⟨ret_bool HV.out.symm, below_drewN HB0.out _⟩
  by_cases e3 : off = off'
  case neg =>
    have HV := HH.out false ⟨fun h => absurd h.2.2.1 e3, fun h => by cases h⟩
    have hne : (off != off') = true := by rw [bne_iff_ne]; exact e3
    subst e2
    clear e1 e3
    go_wp2
    go_ret
    exact ⟨ret_bool HV.out.symm, below_drewN HB0.out _⟩
  by_cases e4 : fl = fl'
  case neg =>
    have HV := HH.out false ⟨fun h => absurd h.2.2.2 e4, fun h => by cases h⟩
    have hne : (fl != fl') = true := by rw [bne_iff_ne]; exact e4
    subst e2
    subst e3
    clear e1 e4
    go_wp2
    go_ret
    exact ⟨ret_bool HV.out.symm, below_drewN HB0.out _⟩
  have HV := HH.out true ⟨fun _ => rfl, fun _ => ⟨e1, e2, e3, e4⟩⟩
  subst e2
  subst e3
  subst e4
  clear e1
  go_wp2
  go_ret
  exact ⟨ret_bool HV.out.symm, below_drewN HB0.out _⟩

set_option maxRecDepth 100000 in
theorem eqDeedS_any (A : Option Addr) (n c : Nat) (ds : List DeedD) (A' : Option Addr) (n' c' : Nat) (ds' : List DeedD) (w : World) (h : RdDs w w.heap.size A n c ds) (h' : RdDs w w.heap.size A' n' c' ds') :
    Calls Tryd.prog 47 #[.slice A n c, .slice A' n' c'] w fun e w' => e = .returned (.bool (decide (ds = ds'))) ∧ Below w.heap.size w w' := by
  have hl := h.len
  have hl' := h'.len
  have hs := h.small
  by_cases hn : n = n'
  · subst hn
    have HL := Lib.hid hl; clear hl
    have HL' := Lib.hid hl'; clear hl'
    go_enter Tryd.func47, Tryd.ntmps47
    go_wp2
    go_loopw [5] (fun i wr => ∃ k : Nat, k ≤ n ∧ i = .int .i64 k ∧ Hid (∀ j, j < k → ds[j]? = ds'[j]?) ∧ Below w.heap.size w wr) (fun i _ => n - (intOf i).toNat)
    case atStart => exact ⟨0, by omega, rfl, Lib.hid (by omega), Below.refl _ _⟩
    case round =>
      obtain ⟨k, hk, rfl, hpre, hbel⟩ := hrel
      by_cases hlt : k < n
      · obtain ⟨b, off, d, rfl, hb, hd, hda⟩ := h.get hlt
        obtain ⟨b', off', d', rfl, hb', hd', hda'⟩ := h'.get hlt
        obtain ⟨An, nn, cn, q0, q1, q2, q3, hneed, hnn, -⟩ := (hda.keep hb (bcells hbel))
        obtain ⟨An', nn', cn', q0', q1', q2', q3', hneed', hnn', -⟩ := (hda'.keep hb' (bcells hbel))
        have HD := Lib.hid hd
        have HD' := Lib.hid hd'
        clear hd hda hd' hda'
        go_wp2
        go_still_tail 8, (by kernel_rfl)
        change wpList _ _ _ _ _ wr.drew
        go_wp2_with fail
        refine (eqDeed_any An nn cn d An' nn' cn' d' wr.drew ((hneed.more hbel.size).keep (fun _ _ _ => rfl)) ((hneed'.more hbel.size).keep (fun _ _ _ => rfl))).mono ?_
        by_cases he : d = d'
        · rw [decide_eq_true he]
          rintro e w2 ⟨rfl, hb2⟩
          have hb2' : Below wr.heap.size wr w2 := ((Below.refl _ _).drew).trans hb2
          have hbel2 := hbel.trans (hb2'.mono hbel.size)
          have HE := Lib.hid he
          clear he hb2 hb2'
          go_wp2
          go_roundw
          case rel => exact ⟨k + 1, by omega, by go_num, Lib.hid fun j hj => by
            rcases Nat.lt_or_ge j k with h1 | h1
            · exact hpre.out j h1
            · obtain rfl : j = k := by omega
              rw [HD.out, HD'.out, HE.out], hbel2⟩
          case measure => simp [intOf]; omega
        · rw [decide_eq_false he]
          rintro e w2 ⟨rfl, hb2⟩
          have hb2' : Below wr.heap.size wr w2 := ((Below.refl _ _).drew).trans hb2
          have hbel2 := hbel.trans (hb2'.mono hbel.size)
          have HF : Hid (decide (ds = ds') = false) := Lib.hid (decide_eq_false fun e => by
            have h1 := HD.out
            rw [e, HD'.out] at h1
            injection h1 with h1
            exact he h1.symm)
          clear he hb2 hb2'
          go_wp2
          go_ret
          exact ⟨ret_bool HF.out.symm, hbel2⟩
      · have HT : Hid (decide (ds = ds') = true) := Lib.hid (decide_eq_true (List.ext_getElem? fun j => by
          rcases Nat.lt_or_ge j k with h1 | h1
          · exact hpre.out j h1
          · rw [List.getElem?_eq_none (by rw [HL.out]; omega), List.getElem?_eq_none (by rw [HL'.out]; omega)]))
        go_wp2
        go_ret
        exact ⟨ret_bool HT.out.symm, hbel⟩
  · have HF : Hid (decide (ds = ds') = false) := Lib.hid (decide_eq_false fun e => hn (by rw [← hl, ← hl', e]))
    have hne : ((n : Int) != (n' : Int)) = true := by rw [bne_iff_ne]; omega
    clear hl hl'
    go_enter Tryd.func47, Tryd.ntmps47
    go_wp2
    go_ret
    exact ⟨ret_bool HF.out.symm, Below.refl _ _⟩

theorem eqTask_any (v : Value) (t : TaskD) (v' : Value) (t' : TaskD) (w : World) (h : RdT w w.heap.size v t) (h' : RdT w w.heap.size v' t') :
    Calls Tryd.prog 18 #[v, v'] w fun e w' => e = .returned (.bool (decide (t = t'))) ∧ Below w.heap.size w w' := by
  obtain ⟨A, n, c, B, m, b, rfl, hg, hgs, hds, hst⟩ := h
  obtain ⟨A', n', c', B', m', b', rfl, hg', hgs', hds', hst'⟩ := h'
  have hb0 : Below w.heap.size w ((w.alloc (Obj.cells #[.int .i64 t.start, .slice A n c, .slice B m b] 26)).alloc (Obj.cells #[.int .i64 t'.start, .slice A' n' c', .slice B' m' b'] 26)) :=
    ((Below.refl _ _).alloc (Nat.le_refl _) _).alloc (by simp) _
  have HH : Hid (∀ b : Bool, ((t.start = t'.start ∧ t.goal = t'.goal ∧ t.deeds = t'.deeds) ↔ b = true) → Hid (decide (t = t') = b)) := Lib.hid fun b hb => Lib.hid (by
    cases b
    · exact decide_eq_false (fun e => absurd (hb.1 (by rw [e]; exact ⟨rfl, rfl, rfl⟩)) (by simp))
    · have := hb.2 rfl
      exact decide_eq_true (TaskD.ext' this.1 this.2.1 this.2.2))
  have H1 := Lib.hid (hg.up hb0)
  have H2 := Lib.hid (hg'.up hb0)
  have H3 := Lib.hid (hds.up hb0)
  have H4 := Lib.hid (hds'.up hb0)
  have HB0 := Lib.hid hb0
  clear hb0
  by_cases e1 : t.start = t'.start
  case neg =>
    have HV := HH.out false ⟨fun h => absurd h.1 e1, fun h => by cases h⟩
    have hne : (t.start != t'.start) = true := by rw [bne_iff_ne]; exact e1
    clear e1
    go_enter Tryd.func18, Tryd.ntmps18
    go_wp2
    go_ret
    exact ⟨ret_bool HV.out.symm, HB0.out⟩
  have E1 := Lib.hid e1
  have hne : (t.start != t'.start) = false := by rw [e1]; simp
  clear e1
  go_enter Tryd.func18, Tryd.ntmps18
  go_wp2_with fail
  refine (eqIntS_any A n c t.goal A' n' c' t'.goal _ H1.out H2.out).mono ?_
  by_cases e2 : t.goal = t'.goal
  case neg =>
    have HV := HH.out false ⟨fun h => absurd h.2.1 e2, fun h => by cases h⟩
    rw [decide_eq_false e2]
    rintro e w1 ⟨rfl, q, rfl⟩
    go_wp2
    go_ret
    exact ⟨ret_bool HV.out.symm, below_drewN HB0.out _⟩
  rw [decide_eq_true e2]
  rintro e w1 ⟨rfl, q, rfl⟩
  have E2 := Lib.hid e2
  clear e2
  go_wp2_with fail
  refine (eqDeedS_any B m b t.deeds B' m' b' t'.deeds _ (H3.out.up (below_drewN (Below.refl _ _) _)) (H4.out.up (below_drewN (Below.refl _ _) _))).mono ?_
  by_cases e3 : t.deeds = t'.deeds
  · have HV := HH.out true ⟨fun _ => rfl, fun _ => ⟨E1.out, E2.out, e3⟩⟩
    rw [decide_eq_true e3]
    rintro e w2 ⟨rfl, hb2⟩
    go_wp2
    go_ret
    exact ⟨ret_bool HV.out.symm, (below_drewN HB0.out q).trans (hb2.mono (below_drewN HB0.out q).size)⟩
  · have HV := HH.out false ⟨fun h => absurd h.2.2 e3, fun h => by cases h⟩
    rw [decide_eq_false e3]
    rintro e w2 ⟨rfl, hb2⟩
    go_wp2
    go_ret
    exact ⟨ret_bool HV.out.symm, (below_drewN HB0.out q).trans (hb2.mono (below_drewN HB0.out q).size)⟩
end Go.Proofs.YtkimgdfcgfhibaaDoor

/- The laws' helpers that mark what a call handed back, and look whether the marks stand: markIntS, heldIntS, markDeedS, heldDeedS, markTask, heldTask. -/
namespace Go.Proofs.YtkimgdfcgfhibaaDoor
open Go.ChangeShapes Go.WideShapes Go.ChangeAt Go.RowKit

def marks (k n : Nat) : List Int := (List.range n).map fun i => ((k + i : Nat) : Int)
@[simp] theorem marks_len (k n : Nat) : (marks k n).length = n := by simp [marks]
theorem marks_get (k n i : Nat) (h : i < n) : (marks k n)[i]? = some ((k + i : Nat) : Int) := by unfold marks; rw [List.getElem?_map, List.getElem?_range h]; rfl
/-- the first i numbers marked -/
def mixI (k : Nat) (xs : List Int) (i : Nat) : List Int := marks k i ++ xs.drop i
def markD (k : Nat) (d : DeedD) : DeedD := ⟨marks k d.need.length, ((k + d.need.length : Nat) : Int), ((k + d.need.length + 1 : Nat) : Int), ((k + d.need.length + 2 : Nat) : Int)⟩
def mkD (d : DeedD) : Nat := d.need.length + 3
def mkDs (ds : List DeedD) : Nat := (ds.map mkD).sum
/-- the mark at which the deed at i begins -/
def markAt (k : Nat) (ds : List DeedD) (i : Nat) : Nat := k + ((ds.take i).map mkD).sum
def markDs (k : Nat) : List DeedD → List DeedD
  | [] => []
  | d :: ds => markD k d :: markDs (k + mkD d) ds
/-- the first i deeds marked -/
def mixD (k : Nat) (ds : List DeedD) (i : Nat) : List DeedD := (markDs k ds).take i ++ ds.drop i
def set3 (cells : List Value) (i : Nat) (a b c : Int) : List Value := ((cells.set (i * 4 + 1) (.int .i64 a)).set (i * 4 + 2) (.int .i64 b)).set (i * 4 + 3) (.int .i64 c)
theorem set3_other (cells : List Value) (i : Nat) (a b c : Int) (j : Nat) (h : j < i * 4 + 1 ∨ i * 4 + 4 ≤ j) : (set3 cells i a b c)[j]? = cells[j]? := by
  unfold set3; rw [List.getElem?_set_ne (by omega), List.getElem?_set_ne (by omega), List.getElem?_set_ne (by omega)]
theorem set3_at (cells : List Value) (i : Nat) (a b c : Int) (h : i * 4 + 3 < cells.length) : (set3 cells i a b c)[i * 4 + 1]? = some (.int .i64 a) ∧ (set3 cells i a b c)[i * 4 + 2]? = some (.int .i64 b) ∧ (set3 cells i a b c)[i * 4 + 3]? = some (.int .i64 c) := by
  unfold set3
  refine ⟨?_, ?_, ?_⟩
  · rw [List.getElem?_set_ne (by omega), List.getElem?_set_ne (by omega), List.getElem?_set_self (by omega)]
  · rw [List.getElem?_set_ne (by omega), List.getElem?_set_self (by simp; omega)]
  · rw [List.getElem?_set_self (by simp; omega)]

/-- one deed of a row of its own turned: its need in place, and its three sets -/
theorem OwnDs.turned {w w1 : World} {lo g n c : Nat} {ds : List DeedD} {F : List Nat} {cells : List Value} {Fs : List (List Nat)} (h : OwnDs w lo (.slice (some ⟨g, 0, none⟩) n c) ds F cells Fs) (hn : ds.length = n) (hnd : F.Nodup)
    (i : Nat) (d : DeedD) (hd : ds[i]? = some d) (nv : Value) (hnv : cells[i * 4]? = some nv) (Fi : List Nat) (hFi : Fs[i]? = some Fi) (e : DeedD) (hlen : e.need.length ≤ 1048576)
    (ho : OwnI w1 lo nv e.need Fi) (hon : Only Fi w w1) (hwf : (Lit.int .i64 e.on).wf = true ∧ (Lit.int .i64 e.off).wf = true ∧ (Lit.int .i64 e.flip).wf = true) :
    OwnDs (((w1.setCell ⟨g, i * 4 + 1, none⟩ (.int .i64 e.on)).setCell ⟨g, i * 4 + 2, none⟩ (.int .i64 e.off)).setCell ⟨g, i * 4 + 3, none⟩ (.int .i64 e.flip)) lo (.slice (some ⟨g, 0, none⟩) n c) (ds.set i e) F (set3 cells i e.on e.off e.flip) Fs ∧
    Only F w (((w1.setCell ⟨g, i * 4 + 1, none⟩ (.int .i64 e.on)).setCell ⟨g, i * 4 + 2, none⟩ (.int .i64 e.off)).setCell ⟨g, i * 4 + 3, none⟩ (.int .i64 e.flip)) := by
  subst hn
  have hi : i < ds.length := (List.getElem?_eq_some_iff.1 hd).1
  have hfoot := h.foot
  simp only [Value.ownBlock, Option.toList] at hfoot
  rw [hfoot] at hnd
  have hnd' := hnd
  rw [List.singleton_append, List.nodup_cons] at hnd
  obtain ⟨hgF, hflat⟩ := hnd
  have hgFi : g ∉ Fi := fun hx => hgF (mem_flat hFi hx)
  have hgw := h.row.lt g rfl
  have hrow1 : w1.ownsRow lo 85 4 (.slice (some ⟨g, 0, none⟩) ds.length c) ds.length cells := ownsRow_heap h.row fun b hb => by
    simp only [Value.ownBlock, Option.some.injEq] at hb
    subst hb
    exact hon.block _ hgw.2 hgFi
  have s1 := (hrow1.stored (i * 4 + 1) (.int .i64 e.on)).1
  have s2 := (s1.stored (i * 4 + 2) (.int .i64 e.off)).1
  have s3 := (s2.stored (i * 4 + 3) (.int .i64 e.flip)).1
  have hother : ∀ b, b ≠ g → (((w1.setCell ⟨g, i * 4 + 1, none⟩ (.int .i64 e.on)).setCell ⟨g, i * 4 + 2, none⟩ (.int .i64 e.off)).setCell ⟨g, i * 4 + 3, none⟩ (.int .i64 e.flip)).heap[b]? = w1.heap[b]? := fun b hb => by
    rw [Below.heap_setCell _ _ _ _ hb, Below.heap_setCell _ _ _ _ hb, Below.heap_setCell _ _ _ _ hb]
  have hcl : cells.length = ds.length * 4 := h.row.1
  refine ⟨⟨by rw [List.length_set]; exact s3, by rw [List.length_set]; exact h.small, by rw [List.length_set]; exact h.flen, h.foot, fun j d' Fj hd' hFj => ?_⟩, ?_⟩
  · by_cases hji : j = i
    · subst hji
      rw [List.getElem?_set_self hi] at hd'
      injection hd' with hd'
      subst hd'
      have := hFj.symm.trans hFi
      injection this with this
      subst this
      obtain ⟨c1, c2, c3⟩ := set3_at cells j e.on e.off e.flip (by omega)
      exact ⟨nv, (set3_other _ _ _ _ _ _ (by omega)).trans hnv, c1, c2, c3, ho.keep fun b hb => hother b (fun e => hgFi (by rw [← e]; exact hb)), hlen, hwf⟩
    · rw [List.getElem?_set_ne (by omega)] at hd'
      obtain ⟨nv', q0, q1, q2, q3, q4, r⟩ := h.deed j d' Fj hd' hFj
      refine ⟨nv', (set3_other _ _ _ _ _ _ (by omega)).trans q0, (set3_other _ _ _ _ _ _ (by omega)).trans q1, (set3_other _ _ _ _ _ _ (by omega)).trans q2, (set3_other _ _ _ _ _ _ (by omega)).trans q3, q4.keep fun b hb => ?_, r⟩
      have hbg : b ≠ g := fun e => hgF (by rw [← e]; exact mem_flat hFj hb)
      rw [hother b hbg]
      refine hon.block b (q4.lt b hb).2 fun hx => ?_
      -- b stands in two parts of a list without doubles
      have hj2 : j < Fs.length := (List.getElem?_eq_some_iff.1 hFj).1
      have hi2 : i < Fs.length := (List.getElem?_eq_some_iff.1 hFi).1
      have hp := List.pairwise_iff_getElem.1 (List.pairwise_flatten.1 hflat).2
      rcases Nat.lt_or_gt_of_ne hji with h1 | h1
      · exact hp j i hj2 hi2 h1 b (by rw [(List.getElem?_eq_some_iff.1 hFj).2]; exact hb) b (by rw [(List.getElem?_eq_some_iff.1 hFi).2]; exact hx) rfl
      · exact hp i j hi2 hj2 h1 b (by rw [(List.getElem?_eq_some_iff.1 hFi).2]; exact hx) b (by rw [(List.getElem?_eq_some_iff.1 hFj).2]; exact hb) rfl
  · have hsub : Only F w w1 := hon.sub fun x hx => by rw [h.foot]; exact List.mem_append_right _ (mem_flat hFi hx)
    have hgm : g ∈ F := by rw [h.foot]; simp [Value.ownBlock]
    exact ((hsub.set hgm _).set hgm _).set hgm _
end Go.Proofs.YtkimgdfcgfhibaaDoor

/- markDeedS, heldDeedS, markTask, heldTask: marks go on from a number, and stand where they were laid. Conditions: at most 2^20 of each, numbers to 2^40. -/
namespace Go.Proofs.YtkimgdfcgfhibaaDoor
open Go.ChangeShapes Go.WideShapes Go.ChangeAt Go.RowKit

def mkT (t : TaskD) : Nat := t.goal.length + mkDs t.deeds
def markT (k : Nat) (t : TaskD) : TaskD := ⟨t.start, marks k t.goal.length, markDs (k + t.goal.length) t.deeds⟩
end Go.Proofs.YtkimgdfcgfhibaaDoor
