/- The laws' helpers that compare: eqDeed, eqDeedS, eqTask: each tells whether the data are the same. -/
import Derived.Test.YtpcaagbmjhgnaaaJFnTaskTurned3
import Derived.Test.YtpcaagbmjhgnaaaJFnTaskTurned4
import Derived.StillTailTactics
namespace Go.Proofs.Ytpcaagbmjhgnaaa
open Go.ChangeShapes Go.WideShapes Go.ChangeAt Go.RowKit

theorem eqDeed_any (A : Option Addr) (n c : Nat) (d : DeedD) (A' : Option Addr) (n' c' : Nat) (d' : DeedD) (w : World) (h : RdI .i64 w w.heap.size A n c d.need) (h' : RdI .i64 w w.heap.size A' n' c' d'.need) :
    Calls Try.prog 134 #[.agg #[.slice A n c, .int .i64 d.on, .int .i64 d.off, .int .i64 d.flip], .agg #[.slice A' n' c', .int .i64 d'.on, .int .i64 d'.off, .int .i64 d'.flip]] w fun e w' => e = .returned (.bool (decide (d = d'))) ∧ Below w.heap.size w w' := by
  obtain ⟨need, on, off, fl⟩ := d
  obtain ⟨need', on', off', fl'⟩ := d'
  simp only at h h' ⊢
  have hb0 : Below w.heap.size w ((w.alloc (Obj.cells #[.slice A n c, .int .i64 on, .int .i64 off, .int .i64 fl] 74)).alloc (Obj.cells #[.slice A' n' c', .int .i64 on', .int .i64 off', .int .i64 fl'] 74)) :=
    ((Below.refl _ _).alloc (Nat.le_refl _) _).alloc (by simp) _
  have HD : ∀ b : Bool, ((need = need' ∧ on = on' ∧ off = off' ∧ fl = fl') ↔ b = true) → Hid (decide ((⟨need, on, off, fl⟩ : DeedD) = ⟨need', on', off', fl'⟩) = b) := fun b hb => Lib.hid (by
    cases b
    · exact decide_eq_false (fun e => by injection e with e1 e2 e3 e4; exact absurd (hb.1 ⟨e1, e2, e3, e4⟩) (by simp))
    · have := hb.2 rfl
      exact decide_eq_true (by rw [this.1, this.2.1, this.2.2.1, this.2.2.2]))
  have HH := Lib.hid HD
  have H1 := Lib.hid (h.up hb0)
  have H2 := Lib.hid (h'.up hb0)
  have HB0 := Lib.hid hb0
  clear HD hb0
  go_enter Try.func134, Try.ntmps134
  go_wp2_with fail
  refine (eqIntS_any A n c need A' n' c' need' _ H1.out H2.out).mono ?_
  by_cases e1 : need = need'
  case neg =>
    have HV := HH.out false ⟨fun h => absurd h.1 e1, fun h => by cases h⟩
    rw [decide_eq_false e1]
    rintro e w1 ⟨rfl, q, rfl⟩
    go_wp2
    go_ret
    exact ⟨ret_bool HV.out.symm, below_drewN HB0.out _⟩
  rw [decide_eq_true e1]
  rintro e w1 ⟨rfl, q, rfl⟩
  by_cases e2 : on = on'
  case neg =>
    have HV := HH.out false ⟨fun h => absurd h.2.1 e2, fun h => by cases h⟩
    have hne : (on != on') = true := by rw [bne_iff_ne]; exact e2
    clear e1 e2
    go_wp2
    go_ret
    exact ⟨ret_bool HV.out.symm, below_drewN HB0.out _⟩
  by_cases e3 : off = off'
  case neg =>
    have HV := HH.out false ⟨fun h => absurd h.2.2.1 e3, fun h => by cases h⟩
    have hne : (off != off') = true := by rw [bne_iff_ne]; exact e3
    subst e2
    clear e1 e3
    go_wp2
    go_ret
    exact ⟨ret_bool HV.out.symm, below_drewN HB0.out _⟩
  by_cases e4 : fl = fl'
  case neg =>
    have HV := HH.out false ⟨fun h => absurd h.2.2.2 e4, fun h => by cases h⟩
    have hne : (fl != fl') = true := by rw [bne_iff_ne]; exact e4
    subst e2
    subst e3
    clear e1 e4
    go_wp2
    go_ret
    exact ⟨ret_bool HV.out.symm, below_drewN HB0.out _⟩
  have HV := HH.out true ⟨fun _ => rfl, fun _ => ⟨e1, e2, e3, e4⟩⟩
  subst e2
  subst e3
  subst e4
  clear e1
  go_wp2
  go_ret
  exact ⟨ret_bool HV.out.symm, below_drewN HB0.out _⟩

set_option maxRecDepth 100000 in
theorem eqDeedS_any (A : Option Addr) (n c : Nat) (ds : List DeedD) (A' : Option Addr) (n' c' : Nat) (ds' : List DeedD) (w : World) (h : RdDs w w.heap.size A n c ds) (h' : RdDs w w.heap.size A' n' c' ds') :
    Calls Try.prog 80 #[.slice A n c, .slice A' n' c'] w fun e w' => e = .returned (.bool (decide (ds = ds'))) ∧ Below w.heap.size w w' := by
  have hl := h.len
  have hl' := h'.len
  have hs := h.small
  by_cases hn : n = n'
  · subst hn
    have HL := Lib.hid hl; clear hl
    have HL' := Lib.hid hl'; clear hl'
    go_enter Try.func80, Try.ntmps80
    go_wp2
    go_loopw [5] (fun i wr => ∃ k : Nat, k ≤ n ∧ i = .int .i64 k ∧ Hid (∀ j, j < k → ds[j]? = ds'[j]?) ∧ Below w.heap.size w wr) (fun i _ => n - (intOf i).toNat)
    case atStart => exact ⟨0, by omega, rfl, Lib.hid (by omega), Below.refl _ _⟩
    case round =>
      obtain ⟨k, hk, rfl, hpre, hbel⟩ := hrel
      by_cases hlt : k < n
      · obtain ⟨b, off, d, rfl, hb, hd, hda⟩ := h.get hlt
        obtain ⟨b', off', d', rfl, hb', hd', hda'⟩ := h'.get hlt
        obtain ⟨An, nn, cn, q0, q1, q2, q3, hneed, hnn, -⟩ := (hda.keep hb (bcells hbel))
        obtain ⟨An', nn', cn', q0', q1', q2', q3', hneed', hnn', -⟩ := (hda'.keep hb' (bcells hbel))
        have HD := Lib.hid hd
        have HD' := Lib.hid hd'
        clear hd hda hd' hda'
        go_wp2
        go_still_tail 8, (by kernel_rfl)
        change wpList _ _ _ _ _ wr.drew
        go_wp2_with fail
        refine (eqDeed_any An nn cn d An' nn' cn' d' wr.drew ((hneed.more hbel.size).keep (fun _ _ _ => rfl)) ((hneed'.more hbel.size).keep (fun _ _ _ => rfl))).mono ?_
        by_cases he : d = d'
        · rw [decide_eq_true he]
          rintro e w2 ⟨rfl, hb2⟩
          have hb2' : Below wr.heap.size wr w2 := ((Below.refl _ _).drew).trans hb2
          have hbel2 := hbel.trans (hb2'.mono hbel.size)
          have HE := Lib.hid he
          clear he hb2 hb2'
          go_wp2
          go_roundw
          case rel => exact ⟨k + 1, by omega, by go_num, Lib.hid fun j hj => by
            rcases Nat.lt_or_ge j k with h1 | h1
            · exact hpre.out j h1
            · obtain rfl : j = k := by omega
              rw [HD.out, HD'.out, HE.out], hbel2⟩
          case measure => simp [intOf]; omega
        · rw [decide_eq_false he]
          rintro e w2 ⟨rfl, hb2⟩
          have hb2' : Below wr.heap.size wr w2 := ((Below.refl _ _).drew).trans hb2
          have hbel2 := hbel.trans (hb2'.mono hbel.size)
          have HF : Hid (decide (ds = ds') = false) := Lib.hid (decide_eq_false fun e => by
            have h1 := HD.out
            rw [e, HD'.out] at h1
            injection h1 with h1
            exact he h1.symm)
          clear he hb2 hb2'
          go_wp2
          go_ret
          exact ⟨ret_bool HF.out.symm, hbel2⟩
      · have HT : Hid (decide (ds = ds') = true) := Lib.hid (decide_eq_true (List.ext_getElem? fun j => by
          rcases Nat.lt_or_ge j k with h1 | h1
          · exact hpre.out j h1
          · rw [List.getElem?_eq_none (by rw [HL.out]; omega), List.getElem?_eq_none (by rw [HL'.out]; omega)]))
        go_wp2
        go_ret
        exact ⟨ret_bool HT.out.symm, hbel⟩
  · have HF : Hid (decide (ds = ds') = false) := Lib.hid (decide_eq_false fun e => hn (by rw [← hl, ← hl', e]))
    have hne : ((n : Int) != (n' : Int)) = true := by rw [bne_iff_ne]; omega
    clear hl hl'
    go_enter Try.func80, Try.ntmps80
    go_wp2
    go_ret
    exact ⟨ret_bool HF.out.symm, Below.refl _ _⟩

theorem eqTask_any (v : Value) (t : TaskD) (v' : Value) (t' : TaskD) (w : World) (h : RdT w w.heap.size v t) (h' : RdT w w.heap.size v' t') :
    Calls Try.prog 19 #[v, v'] w fun e w' => e = .returned (.bool (decide (t = t'))) ∧ Below w.heap.size w w' := by
  obtain ⟨A, n, c, B, m, b, rfl, hg, hgs, hds, hst⟩ := h
  obtain ⟨A', n', c', B', m', b', rfl, hg', hgs', hds', hst'⟩ := h'
  have hb0 : Below w.heap.size w ((w.alloc (Obj.cells #[.int .i64 t.start, .slice A n c, .slice B m b] 28)).alloc (Obj.cells #[.int .i64 t'.start, .slice A' n' c', .slice B' m' b'] 28)) :=
    ((Below.refl _ _).alloc (Nat.le_refl _) _).alloc (by simp) _
  have HH : Hid (∀ b : Bool, ((t.start = t'.start ∧ t.goal = t'.goal ∧ t.deeds = t'.deeds) ↔ b = true) → Hid (decide (t = t') = b)) := Lib.hid fun b hb => Lib.hid (by
    cases b
    · exact decide_eq_false (fun e => absurd (hb.1 (by rw [e]; exact ⟨rfl, rfl, rfl⟩)) (by simp))
    · have := hb.2 rfl
      exact decide_eq_true (TaskD.ext' this.1 this.2.1 this.2.2))
  have H1 := Lib.hid (hg.up hb0)
  have H2 := Lib.hid (hg'.up hb0)
  have H3 := Lib.hid (hds.up hb0)
  have H4 := Lib.hid (hds'.up hb0)
  have HB0 := Lib.hid hb0
  clear hb0
  by_cases e1 : t.start = t'.start
  case neg =>
    have HV := HH.out false ⟨fun h => absurd h.1 e1, fun h => by cases h⟩
    have hne : (t.start != t'.start) = true := by rw [bne_iff_ne]; exact e1
    clear e1
    go_enter Try.func19, Try.ntmps19
    go_wp2
    go_ret
    exact ⟨ret_bool HV.out.symm, HB0.out⟩
  have E1 := Lib.hid e1
  have hne : (t.start != t'.start) = false := by rw [e1]; simp
  clear e1
  go_enter Try.func19, Try.ntmps19
  go_wp2_with fail
  refine (eqIntS_any A n c t.goal A' n' c' t'.goal _ H1.out H2.out).mono ?_
  by_cases e2 : t.goal = t'.goal
  case neg =>
    have HV := HH.out false ⟨fun h => absurd h.2.1 e2, fun h => by cases h⟩
    rw [decide_eq_false e2]
    rintro e w1 ⟨rfl, q, rfl⟩
    go_wp2
    go_ret
    exact ⟨ret_bool HV.out.symm, below_drewN HB0.out _⟩
  rw [decide_eq_true e2]
  rintro e w1 ⟨rfl, q, rfl⟩
  have E2 := Lib.hid e2
  clear e2
  go_wp2_with fail
  refine (eqDeedS_any B m b t.deeds B' m' b' t'.deeds _ (H3.out.up (below_drewN (Below.refl _ _) _)) (H4.out.up (below_drewN (Below.refl _ _) _))).mono ?_
  by_cases e3 : t.deeds = t'.deeds
  · have HV := HH.out true ⟨fun _ => rfl, fun _ => ⟨E1.out, E2.out, e3⟩⟩
    rw [decide_eq_true e3]
    rintro e w2 ⟨rfl, hb2⟩
    go_wp2
    go_ret
    exact ⟨ret_bool HV.out.symm, (below_drewN HB0.out q).trans (hb2.mono (below_drewN HB0.out q).size)⟩
  · have HV := HH.out false ⟨fun h => absurd h.2.2 e3, fun h => by cases h⟩
    rw [decide_eq_false e3]
    rintro e w2 ⟨rfl, hb2⟩
    go_wp2
    go_ret
    exact ⟨ret_bool HV.out.symm, (below_drewN HB0.out q).trans (hb2.mono (below_drewN HB0.out q).size)⟩
end Go.Proofs.Ytpcaagbmjhgnaaa
