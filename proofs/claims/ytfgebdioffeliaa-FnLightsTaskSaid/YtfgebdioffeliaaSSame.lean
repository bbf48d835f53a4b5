/- The laws' helpers that compare: sameInts, sameDeed, sameTask, sameBook, noBook: each tells whether the data are the same. -/
import Derived.Test.YtfgebdioffeliaaSBack
import Derived.Test.YtfgebdioffeliaaSSz
import Derived.Test.YtfgebdioffeliaaSSplit
namespace Go.Proofs.Ytfgebdioffeliaa
set_option linter.unusedVariables false
set_option linter.unusedSimpArgs false
open Go.ChangeShapes Go.WideShapes Go.ChangeAt Go.RowKit

theorem sameInts_any (A : Option Addr) (n c : Nat) (xs : List Int) (A' : Option Addr) (n' c' : Nat) (ys : List Int) (w : World) (h : RdI .i64 w w.heap.size A n c xs) (h' : RdI .i64 w w.heap.size A' n' c' ys) :
    Calls Try.prog 24 #[.slice A n c, .slice A' n' c'] w fun e w' => e = .returned (.bool (decide (xs = ys))) ∧ ∃ q, w' = w.drewN q := by
  have hl := h.len
  have hl' := h'.len
  have hc := h.cap
  have hm := h.capMax
  unfold maxLen at hm
  by_cases hn : n = n'
  · subst hn
    have HL := Lib.hid hl; clear hl
    have HL' := Lib.hid hl'; clear hl'
    go_enter Try.func24, Try.ntmps24
    go_wp2
    go_loopw [5] (fun i wr => ∃ k q : Nat, k ≤ n ∧ i = .int .i64 k ∧ Hid (∀ j, j < k → xs[j]? = ys[j]?) ∧ wr = w.drewN q) (fun i _ => n - (intOf i).toNat)
    case atStart => exact ⟨0, 0, by omega, rfl, Lib.hid (by omega), rfl⟩
    case round =>
      obtain ⟨k, q, hk, rfl, hpre, rfl⟩ := hrel
      by_cases hlt : k < n
      · obtain ⟨b, off, x, rfl, hb, hx, hw, hc⟩ := h.get hlt
        obtain ⟨b', off', y, rfl, hb', hy, hw', hc'⟩ := h'.get hlt
        by_cases hxy : x = y
        · subst hxy
          have HX := Lib.hid (hx.trans hy.symm)
          clear hx hy
          go_wp2
          go_quiet (fail)
          go_wp2
          go_roundw
          case rel => exact ⟨k + 1, _, by omega, by go_num, Lib.hid fun j hj => by
            rcases Nat.lt_or_ge j k with h1 | h1
            · exact hpre.out j h1
            · obtain rfl : j = k := by omega
              exact HX.out, rfl⟩
          case measure => simp [intOf]; omega
        · have HF : Hid (decide (xs = ys) = false) := Lib.hid (decide_eq_false fun e => by rw [e, hy] at hx; injection hx with hx; exact hxy hx.symm)
          have hne : (x != y) = true := by rw [bne_iff_ne]; exact hxy
          clear hx hy hxy
          go_wp2
          go_quiet (fail)
          go_wp2
          go_ret
          exact ⟨ret_bool HF.out.symm, _, World.drewN_drewN _ _ _⟩
      · have HT : Hid (decide (xs = ys) = true) := Lib.hid (decide_eq_true (List.ext_getElem? fun j => by
          rcases Nat.lt_or_ge j k with h1 | h1
          · exact hpre.out j h1
          · rw [List.getElem?_eq_none (by rw [HL.out]; omega), List.getElem?_eq_none (by rw [HL'.out]; omega)]))
        go_wp2
        go_ret
        exact ⟨ret_bool HT.out.symm, _, rfl⟩
  · have HF : Hid (decide (xs = ys) = false) := Lib.hid (decide_eq_false fun e => hn (by rw [← hl, ← hl', e]))
    have hne : ((n : Int) != (n' : Int)) = true := by rw [bne_iff_ne]; omega
    clear hl hl'
    go_enter Try.func24, Try.ntmps24
    go_wp2
    go_ret
    exact ⟨ret_bool HF.out.symm, 0, rfl⟩
theorem sameDeed_any (A : Option Addr) (n c : Nat) (d : DeedD) (A' : Option Addr) (n' c' : Nat) (d' : DeedD) (w : World) (h : RdI .i64 w w.heap.size A n c d.need) (h' : RdI .i64 w w.heap.size A' n' c' d'.need) :
    Calls Try.prog 25 #[.agg #[.slice A n c, .int .i64 d.on, .int .i64 d.off, .int .i64 d.flip], .agg #[.slice A' n' c', .int .i64 d'.on, .int .i64 d'.off, .int .i64 d'.flip]] w fun e w' => e = .returned (.bool (decide (d = d'))) ∧ Below w.heap.size w w' := by
  obtain ⟨need, on, off, fl⟩ := d
  obtain ⟨need', on', off', fl'⟩ := d'
  simp only at h h' ⊢
  have hb0 : Below w.heap.size w ((w.alloc (Obj.cells #[.slice A n c, .int .i64 on, .int .i64 off, .int .i64 fl] 36)).alloc (Obj.cells #[.slice A' n' c', .int .i64 on', .int .i64 off', .int .i64 fl'] 36)) :=
    ((Below.refl _ _).alloc (Nat.le_refl _) _).alloc (by simp) _
  have HD : ∀ b : Bool, ((need = need' ∧ on = on' ∧ off = off' ∧ fl = fl') ↔ b = true) → Hid (decide ((⟨need, on, off, fl⟩ : DeedD) = ⟨need', on', off', fl'⟩) = b) := fun b hb => Lib.hid (by
    cases b
    · exact decide_eq_false (fun e => by injection e with e1 e2 e3 e4; exact absurd (hb.1 ⟨e1, e2, e3, e4⟩) (by simp))
    · have := hb.2 rfl
      exact decide_eq_true (by rw [this.1, this.2.1, this.2.2.1, this.2.2.2]))
  have HH := Lib.hid HD
  have H1 := Lib.hid (h.up hb0)
  have H2 := Lib.hid (h'.up hb0)
  have HB0 := Lib.hid hb0
  clear HD hb0
  go_enter Try.func25, Try.ntmps25
  go_wp2_with fail
  refine (sameInts_any A n c need A' n' c' need' _ H1.out H2.out).mono ?_
  by_cases e1 : need = need'
  case neg =>
    have HV := HH.out false ⟨fun h => absurd h.1 e1, fun h => by cases h⟩
    rw [decide_eq_false e1]
    rintro e w1 ⟨rfl, q, rfl⟩
    go_wp2
    go_ret
    exact ⟨ret_bool HV.out.symm, below_drewN HB0.out _⟩
  rw [decide_eq_true e1]
  rintro e w1 ⟨rfl, q, rfl⟩
  by_cases e2 : on = on'
  case neg =>
    have HV := HH.out false ⟨fun h => absurd h.2.1 e2, fun h => by cases h⟩
    have hne : (on == on') = false := by simpa using e2
    clear e1 e2
    go_wp2
    go_ret
    exact ⟨ret_bool HV.out.symm, below_drewN HB0.out _⟩
  by_cases e3 : off = off'
  case neg =>
    have HV := HH.out false ⟨fun h => absurd h.2.2.1 e3, fun h => by cases h⟩
    have hne : (off == off') = false := by simpa using e3
    subst e2
    clear e1 e3
    go_wp2
    go_ret
    exact ⟨ret_bool HV.out.symm, below_drewN HB0.out _⟩
  by_cases e4 : fl = fl'
  case neg =>
    have HV := HH.out false ⟨fun h => absurd h.2.2.2 e4, fun h => by cases h⟩
    have hne : (fl == fl') = false := by simpa using e4
    subst e2
    subst e3
    clear e1 e4
    go_wp2
    go_ret
    exact ⟨ret_bool HV.out.symm, below_drewN HB0.out _⟩
  have HV := HH.out true ⟨fun _ => rfl, fun _ => ⟨e1, e2, e3, e4⟩⟩
  subst e2
  subst e3
  subst e4
  clear e1
  go_wp2
  go_ret
  exact ⟨ret_bool HV.out.symm, below_drewN HB0.out _⟩
set_option maxRecDepth 100000 in
theorem sameTask_any (v : Value) (t : TaskD) (v' : Value) (t' : TaskD) (w : World) (h : RdT w w.heap.size v t) (h' : RdT w w.heap.size v' t') :
    Calls Try.prog 6 #[v, v'] w fun e w' => e = .returned (.bool (decide (t = t'))) ∧ Below w.heap.size w w' := by
  obtain ⟨A, n, c, B, m, b, rfl, hg, hgs, hds, hst⟩ := h
  obtain ⟨A', n', c', B', m', b', rfl, hg', hgs', hds', hst'⟩ := h'
  have S0 : St w ((w.alloc (Obj.cells #[.int .i64 t.start, .slice A n c, .slice B m b] 30)).alloc (Obj.cells #[.int .i64 t'.start, .slice A' n' c', .slice B' m' b'] 30)) [rBlk w.heap.size 30 #[.int .i64 t.start, .slice A n c, .slice B m b], rBlk (w.heap.size + 1) 30 #[.int .i64 t'.start, .slice A' n' c', .slice B' m' b']] := by
    have := ((St.refl w).alloc #[.int .i64 t.start, .slice A n c, .slice B m b] 30).alloc #[.int .i64 t'.start, .slice A' n' c', .slice B' m' b'] 30
    simpa using this
  have HH : Hid (∀ b : Bool, ((t.start = t'.start ∧ t.goal = t'.goal ∧ t.deeds = t'.deeds) ↔ b = true) → Bx (decide (t = t') = b)) := Lib.hid fun b hb => Bx.mk (by
    cases b
    · exact decide_eq_false (fun e => absurd (hb.1 (by rw [e]; exact ⟨rfl, rfl, rfl⟩)) (by simp))
    · have := hb.2 rfl
      exact decide_eq_true (TaskD.ext' this.1 this.2.1 this.2.2))
  have H1 := Lib.hid (hg.up S0.below)
  have H2 := Lib.hid (hg'.up S0.below)
  have H3 := Lib.hid hds
  have H4 := Lib.hid hds'
  have HL := Lib.hid hds.len
  have HL' := Lib.hid hds'.len
  have hsm := hds.small
  have HS0 := Lib.hid S0
  clear S0
  by_cases e1 : t.start = t'.start
  case neg =>
    have HV := HH.out false ⟨fun h => absurd h.1 e1, fun h => by cases h⟩
    have hne : (t.start != t'.start) = true := by rw [bne_iff_ne]; exact e1
    clear e1
    go_enter Try.func6, Try.ntmps6
    go_wp2
    go_ret
    exact ⟨ret_bool HV.out.symm, HS0.out.below⟩
  have E1 := Lib.hid e1
  have hne : (t.start != t'.start) = false := by rw [e1]; simp
  clear e1
  go_enter Try.func6, Try.ntmps6
  go_wp2_with fail
  refine (sameInts_any A n c t.goal A' n' c' t'.goal _ H1.out H2.out).mono ?_
  by_cases e2 : t.goal = t'.goal
  case neg =>
    have HV := HH.out false ⟨fun h => absurd h.2.1 e2, fun h => by cases h⟩
    rw [decide_eq_false e2]
    rintro e w1 ⟨rfl, q, rfl⟩
    clear e2
    go_wp2
    go_ret
    exact ⟨ret_bool HV.out.symm, below_drewN HS0.out.below _⟩
  rw [decide_eq_true e2]
  rintro e w1 ⟨rfl, q, rfl⟩
  have E2 := Lib.hid e2
  clear e2
  by_cases e3 : m = m'
  case neg =>
    have HV := HH.out false ⟨fun h => absurd (by rw [← HL.out, ← HL'.out, h.2.2]) e3, fun h => by cases h⟩
    have hne3 : ((m : Int) != (m' : Int)) = true := by rw [bne_iff_ne]; omega
    clear e3
    go_wp2
    go_ret
    exact ⟨ret_bool HV.out.symm, below_drewN HS0.out.below _⟩
  subst e3
  have HS1 := Lib.hid (HS0.out.drewN q)
  go_wp2
  go_loopw [5] (fun i wr => ∃ k : Nat, k ≤ m ∧ i = .int .i64 k ∧ Hid (∀ j, j < k → t.deeds[j]? = t'.deeds[j]?) ∧ St w wr [rBlk w.heap.size 30 #[.int .i64 t.start, .slice A n c, .slice B m b], rBlk (w.heap.size + 1) 30 #[.int .i64 t'.start, .slice A' n' c', .slice B' m b']]) (fun i _ => m - (intOf i).toNat)
  case atStart => exact ⟨0, by omega, rfl, Lib.hid (by omega), HS1.out⟩
  case round =>
    clear HS1
    obtain ⟨k, hk, rfl, hpre, S⟩ := hrel
    have HS := Lib.hid S
    have q0 : ∀ j, wr.cell? ⟨w.heap.size, j, none⟩ = _ := S.cells 0 rfl
    have q1 : ∀ j, wr.cell? ⟨w.heap.size + 1, j, none⟩ = _ := S.cells 1 rfl
    clear S
    by_cases hlt : k < m
    · obtain ⟨b1, off, d, rfl, hb, hd, hda⟩ := H3.out.get hlt
      obtain ⟨b2, off', d', rfl, hb', hd', hda'⟩ := H4.out.get hlt
      obtain ⟨An, nn, cn, p0, p1, p2, p3, hneed, hnn, -⟩ := (hda.keep hb (bcells HS.out.below))
      obtain ⟨An', nn', cn', p0', p1', p2', p3', hneed', hnn', -⟩ := (hda'.keep hb' (bcells HS.out.below))
      have HD := Lib.hid hd
      have HD' := Lib.hid hd'
      clear hd hda hd' hda'
      have hsz := HS.out.size
      go_wp2
      go_still_tail 10, (by kernel_rfl)
      change wpList _ _ _ _ _ wr.drew
      go_wp2_with fail
      refine (sameDeed_any An nn cn d An' nn' cn' d' wr.drew ((hneed.more hsz).keep (fun _ _ _ => rfl)) ((hneed'.more hsz).keep (fun _ _ _ => rfl))).mono ?_
      by_cases he : d = d'
      · rw [decide_eq_true he]
        rintro e w2 ⟨rfl, hb2⟩
        have HS2 := Lib.hid ((HS.out.drew).quiet hb2)
        have HE := Lib.hid he
        have HP : Hid (∀ j, j < k + 1 → t.deeds[j]? = t'.deeds[j]?) := Lib.hid fun j hj => by
          rcases Nat.lt_or_ge j k with h1 | h1
          · exact hpre.out j h1
          · obtain rfl : j = k := by omega
            rw [HD.out, HD'.out, HE.out]
        clear he hb2
        go_wp2
        go_roundw
        case rel => exact ⟨k + 1, by omega, by go_num, HP, HS2.out⟩
        case measure => simp [intOf]; omega
      · rw [decide_eq_false he]
        rintro e w2 ⟨rfl, hb2⟩
        have HS2 := Lib.hid ((HS.out.drew).quiet hb2).below
        have HV := HH.out false ⟨fun h => absurd (by
          have h1 := HD.out
          rw [h.2.2, HD'.out] at h1
          injection h1 with h1
          exact h1.symm) he, fun h => by cases h⟩
        clear he hb2
        go_wp2
        go_ret
        exact ⟨ret_bool HV.out.symm, HS2.out⟩
    · have HV := HH.out true ⟨fun _ => rfl, fun _ => ⟨E1.out, E2.out, List.ext_getElem? fun j => by
        rcases Nat.lt_or_ge j k with h1 | h1
        · exact hpre.out j h1
        · rw [List.getElem?_eq_none (by rw [HL.out]; omega), List.getElem?_eq_none (by rw [HL'.out]; omega)]⟩⟩
      go_wp2
      go_ret
      exact ⟨ret_bool HV.out.symm, HS.out.below⟩
end Go.Proofs.Ytfgebdioffeliaa
