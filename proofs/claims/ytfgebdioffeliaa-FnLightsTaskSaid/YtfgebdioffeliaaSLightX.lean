/- Walks of the lights of the program: the least set, whether it may be, sums as proofs; 'proved' of the laws. -/
import Derived.Test.YtfgebdioffeliaaSLightW
namespace Go.Proofs.Ytfgebdioffeliaa
set_option linter.unusedVariables false
set_option linter.unusedSimpArgs false
open Go.ChangeShapes Go.WideShapes Go.ChangeAt Go.RowKit

theorem St.formL {w W : World} {L : List HRes} (h : St w W L) (i : Nat) {v : Value} {xs : List Int} (hi : L[i]? = some (rInts v xs)) {n : Nat} (hn : xs.length = n) : ∃ A c, v = .slice A n c := by
  obtain ⟨F, h1, -⟩ := h.get i hi
  subst hn
  rcases h1.row.2 with ⟨h2, h3⟩ | ⟨g, cap, cur, hv, _⟩
  · exact ⟨none, 0, by rw [h2, h3]⟩
  · exact ⟨_, cap, hv⟩
theorem tmodP2 (p r : Nat) (h : p % 2 = r) : (p : Int).tmod 2 = (r : Int) := by rw [← h, Int.tmod_eq_emod_of_nonneg (by omega)]; simp
def outK (xs : List Int) (v k : Nat) : Option Nat := outB (rowF xs) xs.length v k
set_option maxRecDepth 100000 in
set_option maxHeartbeats 1000000 in
theorem outBy_impl (A : Option Addr) (n c : Nat) (xs : List Int) (v : Nat) (w : World) (h : RdI .i64 w w.heap.size A n c xs) (hok : setOk xs (v : Int) = true) :
    Calls Try.prog 12 #[.agg #[.slice A n c], .int .i64 v] w fun e w' => e = .returned (.tuple #[.int .i64 (opt (outK xs v (2 ^ n))), .bool (outK xs v (2 ^ n)).isSome]) ∧ Below w.heap.size w w' := by
  have HL := Lib.hid h.len
  obtain ⟨hg, hs0, hs1⟩ := (setOk_iff xs v).1 hok
  have hn9 : n ≤ 9 := by rw [← HL.out]; exact (graphOk_len xs hg).2
  have HS0 := Lib.hid ((St.refl w).alloc #[.slice A n c] 25)
  have H := Lib.hid h
  have HOK := Lib.hid hok
  have HG := Lib.hid hg
  obtain ⟨hP1, hP2, hP3⟩ := pow9 hn9
  have hw := wrap_pow n (by omega)
  obtain ⟨P, hP⟩ : ∃ P, 2 ^ n = P := ⟨_, rfl⟩
  rw [hP] at hP1 hP2 hP3 ⊢
  rw [hP3] at hw
  clear h hok hg hP hs0 hs1
  go_enter Try.func12, Try.ntmps12
  go_wp2_with fail
  refine (setValid_impl A n c xs v _ (H.out.up HS0.out.below)).mono ?_
  rw [HOK.out]
  rintro e w1 ⟨rfl, hb1⟩
  have HS1 := Lib.hid (HS0.out.quiet hb1)
  have q1 : ∀ j, w1.cell? ⟨w.heap.size, j, none⟩ = _ := HS1.out.cells 0 rfl
  clear hb1 HS0
  go_wp2
  go_loopw [6, 16] (fun bv i wr => ∃ (k : Nat) (o : Option Nat), k ≤ P ∧ i = .int .i64 k ∧ bv = .int .i64 (opt o) ∧ Bx (outK xs v k = o) ∧ St w wr [rBlk w.heap.size 25 #[.slice A n c]]) (fun _ i _ => P - (intOf i).toNat)
  case atStart => exact ⟨0, none, by omega, by first | rfl | (rw [hw]; rfl), rfl, Bx.mk rfl, HS1.out⟩
  case round =>
    clear HS1 q1
    obtain ⟨k, o, hk, rfl, rfl, HO, S⟩ := hrel
    have HS := Lib.hid S
    clear S
    by_cases hlt : k < P
    · have q1 : ∀ j, wr.cell? ⟨w.heap.size, j, none⟩ = _ := HS.out.cells 0 rfl
      go_wp2_with fail
      refine (pressesChange_any A n c xs k _ (H.out.up HS.out.below) HG.out (by omega)).mono ?_
      rintro e w3 ⟨rfl, hb3⟩
      have HS3 := Lib.hid (HS.out.quiet hb3)
      clear hb3 HS q1
      obtain ⟨y, hy⟩ : ∃ y, pressN xs k n = y := ⟨_, rfl⟩
      have HY : Bx (press (rowF xs) k xs.length = y) := Bx.mk (by rw [HL.out]; exact hy)
      rw [hy]
      clear hy
      by_cases hyv : y = v
      case neg =>
        have hne : ((y : Int) == (v : Int)) = false := beq_false_of_ne (by omega)
        have HO2 : Bx (outK xs v (k + 1) = o) := Bx.mk (by rw [← HO.out]; exact outB_no (by rw [HY.out]; exact hyv))
        clear hyv
        go_wp2
        go_roundw
        case rel => exact ⟨k + 1, o, by omega, by go_num, rfl, HO2, HS3.out⟩
        case measure => simp [intOf]; omega
      subst hyv
      have hee : ((y : Int) == (y : Int)) = true := beq_self_eq_true _
      cases o with
      | none =>
        have HO2 : Bx (outK xs y (k + 1) = some k) := Bx.mk (outB_first HY.out HO.out)
        simp only [opt]
        go_wp2
        go_roundw
        case rel => exact ⟨k + 1, some k, by omega, by go_num, rfl, HO2, HS3.out⟩
        case measure => simp [intOf]; omega
      | some b =>
        have hb := (outB_some (show outB (rowF xs) xs.length y k = some b from HO.out)).1
        simp only [opt]
        go_wp2_with fail
        refine (countBits_nat k (by omega) _).mono ?_
        rintro e w4 ⟨rfl, rfl⟩
        go_wp2_with fail
        refine (countBits_nat b (by omega) _).mono ?_
        rintro e w5 ⟨rfl, rfl⟩
        obtain ⟨pk, hpk⟩ : ∃ x, popc k = x := ⟨_, rfl⟩
        obtain ⟨pb, hpb⟩ : ∃ x, popc b = x := ⟨_, rfl⟩
        rw [hpk, hpb]
        by_cases hlt2 : pk < pb
        · have HO2 : Bx (outK xs y (k + 1) = some k) := Bx.mk (outB_less HY.out HO.out (by rw [hpk, hpb]; exact hlt2))
          clear hpk hpb
          go_wp2
          go_roundw
          case rel => exact ⟨k + 1, some k, by omega, by go_num, rfl, HO2, HS3.out⟩
          case measure => simp [intOf]; omega
        · have HO2 : Bx (outK xs y (k + 1) = some b) := Bx.mk (outB_keep HY.out HO.out (by rw [hpk, hpb]; exact hlt2))
          clear hpk hpb
          go_wp2
          go_roundw
          case rel => exact ⟨k + 1, some b, by omega, by go_num, rfl, HO2, HS3.out⟩
          case measure => simp [intOf]; omega
    · have hkn : k = P := by omega
      have HF : Bx (outK xs v P = o) := Bx.mk (by rw [← hkn]; exact HO.out)
      clear hkn
      cases o with
      | none =>
        simp only [opt]
        go_wp2
        go_ret2
        exact ⟨by rw [HF.out]; rfl, HS.out.below⟩
      | some b =>
        simp only [opt]
        have hb0 : (0 : Int) ≤ (b : Int) := by omega
        go_wp2
        go_ret2
        exact ⟨by rw [HF.out]; rfl, HS.out.below⟩
/-- each of the first k quiet sets has an even number of the lights -/
def mayK (xs : List Int) (v : Nat) (k : Nat) : Bool := ((quietL xs (2 ^ xs.length)).take k).all fun x => popc (x.toNat &&& v) % 2 == 0
def mayB (xs : List Int) (v : Nat) : Bool := (quietL xs (2 ^ xs.length)).all fun x => popc (x.toNat &&& v) % 2 == 0
theorem mayK_step {xs : List Int} {v k q : Nat} (h : (quietL xs (2 ^ xs.length))[k]? = some ((q : Nat) : Int)) : mayK xs v (k + 1) = (mayK xs v k && (popc (q &&& v) % 2 == 0)) := by
  unfold mayK
  rw [List.take_add_one, h, List.all_append]
  simp
theorem mayB_no {xs : List Int} {v k q : Nat} (h : (quietL xs (2 ^ xs.length))[k]? = some ((q : Nat) : Int)) (hq : popc (q &&& v) % 2 = 1) : mayB xs v = false := by
  unfold mayB
  rw [List.all_eq_false]
  exact ⟨_, List.mem_of_getElem? h, by rw [Int.toNat_natCast, hq]; simp⟩
theorem mayB_of {xs : List Int} {v : Nat} : mayK xs v (quietL xs (2 ^ xs.length)).length = mayB xs v := by unfold mayK mayB; rw [List.take_length]
theorem mayB_iff {xs : List Int} (h : graphOk xs = true) {v : Nat} (hv : v < 2 ^ xs.length) : mayB xs v = true ↔ canP (rowF xs) xs.length v := by
  rw [lights_may h hv]
  unfold mayB
  rw [List.all_eq_true]
  constructor
  · intro hh q hq h0
    have := hh _ (quietL_mem hq h0)
    simpa using this
  · intro hh x hx
    obtain ⟨k, hk⟩ := List.mem_iff_getElem?.1 hx
    obtain ⟨q, rfl, h1, h2⟩ := quietL_at hk
    have := hh q h1 h2
    simpa using this
set_option maxRecDepth 100000 in
set_option maxHeartbeats 1000000 in
theorem outMay_impl (A : Option Addr) (n c : Nat) (xs : List Int) (v : Nat) (w : World) (h : RdI .i64 w w.heap.size A n c xs) (hok : setOk xs (v : Int) = true) :
    Calls Try.prog 14 #[.agg #[.slice A n c], .int .i64 v] w fun e w' => e = .returned (.bool (mayB xs v)) ∧ Below w.heap.size w w' := by
  have HL := Lib.hid h.len
  obtain ⟨hg, hs0, hs1⟩ := (setOk_iff xs v).1 hok
  rw [h.len] at hs1
  have hn9 : n ≤ 9 := by rw [← HL.out]; exact (graphOk_len xs hg).2
  have HS0 := Lib.hid ((St.refl w).alloc #[.slice A n c] 25)
  have H := Lib.hid h
  have HOK := Lib.hid hok
  have HG := Lib.hid hg
  obtain ⟨hP1, hP2, hP3⟩ := pow9 hn9
  have hv512 : v < 512 := by omega
  clear h hok hg hs0 hs1 hP3
  go_enter Try.func14, Try.ntmps14
  go_wp2_with fail
  refine (setValid_impl A n c xs v _ (H.out.up HS0.out.below)).mono ?_
  rw [HOK.out]
  rintro e w1 ⟨rfl, hb1⟩
  have HS1 := Lib.hid (HS0.out.quiet hb1)
  have q1 : ∀ j, w1.cell? ⟨w.heap.size, j, none⟩ = _ := HS1.out.cells 0 rfl
  clear hb1 HS0
  go_wp2_with fail
  refine (quietSets_impl A n c xs _ (H.out.up HS1.out.below) HG.out).mono ?_
  rintro e w2 ⟨qv, rfl, s2⟩
  obtain ⟨qs, hqs⟩ : ∃ qs, quietL xs (2 ^ n) = qs := ⟨_, rfl⟩
  have HQS : Bx (quietL xs (2 ^ xs.length) = qs) := Bx.mk (by rw [HL.out]; exact hqs)
  have hml := quietL_len xs (2 ^ n)
  rw [hqs] at s2 hml
  obtain ⟨m, hm⟩ : ∃ m, qs.length = m := ⟨_, rfl⟩
  obtain ⟨Q, d, hv⟩ := s2.formL 0 rfl hm
  simp only [id_eq] at hv ⊢
  subst hv
  rw [hm] at hml
  have HM := Lib.hid hm
  have HS2 : Hid (St w w2 [rBlk w.heap.size 25 #[.slice A n c], rInts (.slice Q m d) qs]) := Lib.hid (HS1.out.call s2)
  clear s2 HS1 q1 hqs hm
  go_wp2
  go_loopw [14] (fun i wr => ∃ k : Nat, k ≤ m ∧ i = .int .i64 k ∧ Bx (mayK xs v k = true) ∧ St w wr [rBlk w.heap.size 25 #[.slice A n c], rInts (.slice Q m d) qs]) (fun i _ => m - (intOf i).toNat)
  case atStart => exact ⟨0, by omega, rfl, Bx.mk rfl, HS2.out⟩
  case round =>
    clear HS2
    obtain ⟨k, hk, rfl, HK, S⟩ := hrel
    have HS := Lib.hid S
    clear S
    by_cases hlt : k < m
    · obtain ⟨g, rfl⟩ : ∃ g, Q = some ⟨g, 0, none⟩ := by
        obtain ⟨g, c', hv⟩ := HS.out.formI 1 rfl HM.out (by omega)
        simp only [Value.slice.injEq] at hv
        exact ⟨g, hv.1⟩
      obtain ⟨x, hx⟩ : ∃ x, qs[k]? = some x := ⟨_, List.getElem?_eq_getElem (by rw [HM.out]; exact hlt)⟩
      obtain ⟨q, rfl, hq1, hq2⟩ := quietL_at (xs := xs) (m := 2 ^ xs.length) (by rw [HQS.out]; exact hx)
      have hq512 : q < 512 := by rw [HL.out] at hq1; omega
      obtain ⟨hc, -⟩ := HS.out.cellI 1 rfl HM.out k _ hx
      have HX := Bx.mk hx
      have hand := i64_and_nat q v (by omega) (by omega)
      have hand2 : q &&& v < 512 := Nat.lt_of_le_of_lt Nat.and_le_left hq512
      obtain ⟨z, hz⟩ : ∃ z, q &&& v = z := ⟨_, rfl⟩
      have HZ := Bx.mk hz
      rw [hz] at hand hand2
      clear hx hz hq1 hq2
      go_wp2_with fail
      refine (countBits_nat z (by omega) _).mono ?_
      rintro e w4 ⟨rfl, rfl⟩
      obtain ⟨pz, hpz⟩ : ∃ x, popc z = x := ⟨_, rfl⟩
      rw [hpz]
      by_cases hodd : pz % 2 = 1
      · have ht := tmodP2 pz 1 hodd
        have HF : Bx (mayB xs v = false) := Bx.mk (mayB_no (k := k) (q := q) (by rw [HQS.out]; exact HX.out) (by rw [HZ.out, hpz]; exact hodd))
        clear hpz hodd
        go_wp2
        go_ret
        exact ⟨by rw [HF.out]; rfl, HS.out.below⟩
      · have hev : pz % 2 = 0 := by omega
        have ht := tmodP2 pz 0 hev
        have HK2 : Bx (mayK xs v (k + 1) = true) := Bx.mk (by rw [mayK_step (q := q) (by rw [HQS.out]; exact HX.out), HK.out, HZ.out, hpz, hev]; rfl)
        clear hpz hodd hev
        go_wp2
        go_roundw
        case rel => exact ⟨k + 1, by omega, by go_num, HK2, HS.out⟩
        case measure => simp [intOf]; omega
    · have hkn : k = m := by omega
      have HF : Bx (mayB xs v = true) := Bx.mk (by rw [← mayB_of, HQS.out, HM.out, ← hkn]; exact HK.out)
      clear hkn
      go_wp2
      go_ret
      exact ⟨by rw [HF.out]; rfl, HS.out.below⟩
theorem mset_full {p : Nat → Bool} (h : ∀ s, s < 32 → p s = true) : mset p 32 = 4294967295 := by
  rw [mset_congr (q := fun _ => true) fun k hk => h k hk]; decide +kernel
/-- a task whose deeds only turn facts round -/
def turnsOnly (t : TaskD) : Prop := taskOk t = true ∧ ∀ d ∈ t.deeds, d.on = 0 ∧ d.off = 0 ∧ codeTruth d.need = 4294967295
theorem sumOk_parts {t : TaskD} {F : Nat} (h : sumOk t (F : Int) = true) : turnsOnly t ∧ stIn (F : Int) = true ∧ (∀ d ∈ t.deeds, popc (d.flip.toNat &&& F) % 2 = 0) ∧ ∀ s, s < 32 → evalCode t.goal s = true → popc (s &&& F) % 2 ≠ popc (t.start.toNat &&& F) % 2 := by
  unfold sumOk at h
  simp only [Bool.and_eq_true, List.all_eq_true, List.mem_range, Bool.or_eq_true, Bool.not_eq_true', beq_iff_eq, beq_eq_false_iff_ne, decide_eq_true_eq, Int.toNat_natCast] at h
  obtain ⟨⟨⟨⟨h1, h2⟩, h3⟩, h4⟩, h5⟩ := h
  refine ⟨⟨h2, fun d hd => ?_⟩, h1, fun d hd => h4 d hd, fun s hs hg => ?_⟩
  · obtain ⟨⟨a, b⟩, c⟩ := h3 d hd
    refine ⟨a, b, ?_⟩
    have hdok := (taskOk_parts t h2).2.2.2 d hd
    rw [codeTruth_yes _ (deedOk_parts d hdok).1]
    unfold truthN
    rw [mset_full c]; rfl
  · rcases h5 s hs with h6 | h6
    · rw [h6] at hg; cases hg
    · exact h6
set_option maxRecDepth 100000 in
set_option maxHeartbeats 1000000 in
theorem onlyTurns_yes (v : Value) (t : TaskD) (w : World) (h : RdT w w.heap.size v t) (ht : turnsOnly t) :
    Calls Try.prog 57 #[v] w fun e w' => e = .returned (.bool true) ∧ Below w.heap.size w w' := by
  have h' := h
  obtain ⟨G, gn, gc, G', n', c', rfl, hg, hgs, hds, hst⟩ := h
  have HS0 := Lib.hid ((St.refl w).alloc #[.int .i64 t.start, .slice G gn gc, .slice G' n' c'] 30)
  have HT := Lib.hid (h'.up HS0.out.below)
  have HDS := Lib.hid hds
  have hn6 : n' ≤ 6 := by rw [← hds.len]; exact (taskOk_parts t ht.1).2.2.1
  have HOK := Lib.hid ht.1
  have HTU := Lib.hid ht.2
  clear h' hg hds ht
  go_enter Try.func57, Try.ntmps57
  go_wp2_with fail
  refine (taskValid_impl _ t _ HT.out).mono ?_
  rw [HOK.out]
  rintro e w1 ⟨rfl, hb1⟩
  have HS1 := Lib.hid (HS0.out.quiet hb1)
  have q1 : ∀ j, w1.cell? ⟨w.heap.size, j, none⟩ = _ := HS1.out.cells 0 rfl
  clear hb1 HS0
  go_wp2
  go_loopw [11] (fun i wr => ∃ k : Nat, k ≤ n' ∧ i = .int .i64 k ∧ St w wr [rBlk w.heap.size 30 #[.int .i64 t.start, .slice G gn gc, .slice G' n' c']]) (fun i _ => n' - (intOf i).toNat)
  case atStart => exact ⟨0, by omega, rfl, HS1.out⟩
  case round =>
    clear HS1 q1
    obtain ⟨k, hk, rfl, S⟩ := hrel
    have HS := Lib.hid S
    clear S
    by_cases hlt : k < n'
    · obtain ⟨b, off, d, rfl, hb, hd, hda⟩ := HDS.out.get hlt
      obtain ⟨An, nn, cn, q0, q1, q2, q3, hneed, -⟩ := (hda.keep hb (bcells HS.out.below))
      obtain ⟨e1, e2, e3⟩ := HTU.out d (List.mem_of_getElem? hd)
      rw [e1] at q1
      rw [e2] at q2
      have HE3 := Bx.mk e3
      obtain ⟨fl, hfl⟩ : ∃ fl, d.flip = fl := ⟨_, rfl⟩
      rw [hfl] at q3
      have HS2 := Lib.hid (HS.out.alloc #[.slice An nn cn, .int .i64 0, .int .i64 0, .int .i64 fl] 36)
      have HN := Lib.hid (((hneed.more HS.out.below.size).up ((Below.refl wr.heap.size wr).alloc (Nat.le_refl _) (Obj.cells #[.slice An nn cn, .int .i64 0, .int .i64 0, .int .i64 fl] 36))))
      clear hd hda hneed e1 e2 e3 hfl
      go_wp2_with fail
      refine (codeTruth_impl An nn cn d.need _ HN.out).mono ?_
      rw [HE3.out]
      rintro e w3 ⟨rfl, hb3⟩
      have HS3 : Hid (St w w3 [rBlk w.heap.size 30 #[.int .i64 t.start, .slice G gn gc, .slice (some ⟨b, off, none⟩) n' c']]) := Lib.hid ((HS2.out.quiet hb3).pick [0] (by decide) rfl rfl)
      clear hb3 HS2 HS q0 q1 q2 q3
      go_wp2
      go_roundw
      case rel => exact ⟨k + 1, by omega, by go_num, HS3.out⟩
      case measure => simp [intOf]; omega
    · go_wp2
      go_ret
      exact ⟨rfl, HS.out.below⟩
set_option maxRecDepth 100000 in
set_option maxHeartbeats 1000000 in
theorem sumOk_yes (v : Value) (t : TaskD) (F : Nat) (w : World) (h : RdT w w.heap.size v t) (hsum : sumOk t (F : Int) = true) :
    Calls Try.prog 44 #[v, .int .i64 F] w fun e w' => e = .returned (.bool true) ∧ Below w.heap.size w w' := by
  have h' := h
  obtain ⟨G, gn, gc, G', n', c', rfl, hg, hgs, hds, hst⟩ := h
  obtain ⟨ht, hF, hdv, hgl⟩ := sumOk_parts hsum
  have hF32 : F < 32 := by have := hF; unfold stIn at this; simp at this; omega
  obtain ⟨hs0, hgok, hn6', hdok⟩ := taskOk_parts t ht.1
  have hn6 : n' ≤ 6 := by rw [← hds.len]; exact hn6'
  clear hn6'
  obtain ⟨s0, hst0⟩ := Int.eq_ofNat_of_zero_le hs0.1
  have hs32 : s0 < 32 := by omega
  rw [hst0] at hgl
  have HS0 : Hid (St w (w.alloc (.cells #[.int .i64 s0, .slice G gn gc, .slice G' n' c'] 30)) [rBlk w.heap.size 30 #[.int .i64 s0, .slice G gn gc, .slice G' n' c']]) := Lib.hid ((St.refl w).alloc _ _)
  have HT := Lib.hid (h'.up HS0.out.below)
  have HG := Lib.hid hg
  have HDS := Lib.hid hds
  have HTU := Lib.hid ht
  have HF := Bx.mk hF
  have HDV := Lib.hid hdv
  have HGL := Lib.hid hgl
  have HDOK := Lib.hid hdok
  have HTR := Bx.mk (codeTruth_yes t.goal hgok)
  rw [hst0] at HT ⊢
  clear h' hg hds ht hdv hgl hdok hgok hsum hF hs0
  go_enter Try.func44, Try.ntmps44
  go_wp2_with fail
  refine (stateOk_any (F : Int) _).mono ?_
  rw [HF.out]
  rintro e w1 ⟨rfl, rfl⟩
  have q0 : ∀ j, (w.alloc (.cells #[.int .i64 s0, .slice G gn gc, .slice G' n' c'] 30)).cell? ⟨w.heap.size, j, none⟩ = _ := HS0.out.cells 0 rfl
  go_wp2_with fail
  refine (onlyTurns_yes _ t _ (by first | exact HT.out | (rw [← hst0] at *; exact HT.out)) HTU.out).mono ?_
  rintro e w2 ⟨rfl, hb2⟩
  have HS2 := Lib.hid (HS0.out.quiet hb2)
  have q2 : ∀ j, w2.cell? ⟨w.heap.size, j, none⟩ = _ := HS2.out.cells 0 rfl
  clear hb2 HS0 q0 hst0
  go_wp2
  go_loopw [21] (fun i wr => ∃ k : Nat, k ≤ n' ∧ i = .int .i64 k ∧ St w wr [rBlk w.heap.size 30 #[.int .i64 s0, .slice G gn gc, .slice G' n' c']]) (fun i _ => n' - (intOf i).toNat)
  case atStart => exact ⟨0, by omega, rfl, HS2.out⟩
  case round =>
    clear HS2 q2
    obtain ⟨k, hk, rfl, S⟩ := hrel
    have HS := Lib.hid S
    clear S
    by_cases hlt : k < n'
    · obtain ⟨b, off, d, rfl, hb, hd, hda⟩ := HDS.out.get hlt
      obtain ⟨An, nn, cn, q0, q1, q2, q3, hneed, -⟩ := (hda.keep hb (bcells HS.out.below))
      have hev := HDV.out d (List.mem_of_getElem? hd)
      obtain ⟨-, -, -, hfl, -⟩ := deedOk_parts d (HDOK.out d (List.mem_of_getElem? hd))
      obtain ⟨fl, hfle⟩ := Int.eq_ofNat_of_zero_le hfl.1
      rw [hfle] at q3 hfl
      rw [hfle, Int.toNat_natCast] at hev
      have hfl2 : fl < 32 := by omega
      have hand := i64_and_nat fl F (by omega) (by omega)
      have hand2 : fl &&& F < 32 := Nat.lt_of_le_of_lt Nat.and_le_left hfl2
      obtain ⟨z, hz⟩ : ∃ z, fl &&& F = z := ⟨_, rfl⟩
      rw [hz] at hand hand2 hev
      obtain ⟨on, hon⟩ : ∃ x, d.on = x := ⟨_, rfl⟩
      obtain ⟨off2, hoff⟩ : ∃ x, d.off = x := ⟨_, rfl⟩
      rw [hon] at q1
      rw [hoff] at q2
      obtain ⟨pz, hpz⟩ : ∃ x, popc z = x := ⟨_, rfl⟩
      have HPZ := Bx.mk hpz
      rw [hpz] at hev
      have ht := tmodP2 pz 0 hev
      have HS3 : Hid (St w (wr.alloc (.cells #[.slice An nn cn, .int .i64 on, .int .i64 off2, .int .i64 fl] 36)) [rBlk w.heap.size 30 #[.int .i64 s0, .slice G gn gc, .slice (some ⟨b, off, none⟩) n' c']]) := Lib.hid ((HS.out.alloc _ _).pick [0] (by decide) rfl rfl)
      clear hd hda hneed hfl hfle hon hoff hz hpz hev
      go_wp2_with fail
      refine (countBits_nat z (by omega) _).mono ?_
      rintro e w4 ⟨rfl, rfl⟩
      rw [HPZ.out]
      clear HS q0 q1 q2 q3
      go_wp2
      go_roundw
      case rel => exact ⟨k + 1, by omega, by go_num, HS3.out⟩
      case measure => simp [intOf]; omega
    · have q1 : ∀ j, wr.cell? ⟨w.heap.size, j, none⟩ = _ := HS.out.cells 0 rfl
      have hand := i64_and_nat s0 F (by omega) (by omega)
      have hand2 : s0 &&& F < 32 := Nat.lt_of_le_of_lt Nat.and_le_left hs32
      obtain ⟨z, hz⟩ : ∃ z, s0 &&& F = z := ⟨_, rfl⟩
      have HZ := Bx.mk hz
      rw [hz] at hand hand2
      obtain ⟨pz, hpz⟩ : ∃ x, popc z = x := ⟨_, rfl⟩
      have HPZ := Bx.mk hpz
      obtain ⟨r0, hr0⟩ : ∃ r, pz % 2 = r := ⟨_, rfl⟩
      have HR0 := Bx.mk hr0
      have ht := tmodP2 pz r0 hr0
      clear hz hpz hr0
      go_wp2_with fail
      refine (countBits_nat z (by omega) _).mono ?_
      rintro e w4 ⟨rfl, rfl⟩
      rw [HPZ.out]
      go_wp2_with fail
      refine (codeTruth_impl G gn gc t.goal _ (HG.out.up HS.out.below)).mono ?_
      rw [HTR.out]
      rintro e w5 ⟨rfl, hb5⟩
      have HS5 := Lib.hid (HS.out.quiet hb5).below
      obtain ⟨N0, hN0⟩ : ∃ N, truthN t.goal = N := ⟨_, rfl⟩
      have HN0 : Bx (∀ s, s < 32 → (bit N0 s == 1) = evalCode t.goal s) := Bx.mk fun s hs => by rw [← hN0]; exact bit_mset1 _ hs
      have hN32 : N0 < 4294967296 := by rw [← hN0]; exact mset32_lt _
      rw [hN0]
      clear hN0 hb5 HS q1 ht
      go_wp2
      go_loopw [42] (fun i wr => ∃ s : Nat, s ≤ 32 ∧ i = .int .i64 s ∧ wr = w5) (fun i _ => 32 - (intOf i).toNat)
      case atStart => exact ⟨0, by omega, rfl, rfl⟩
      case round =>
        obtain ⟨s, hs, rfl, rfl⟩ := hrel
        by_cases hlt2 : s < 32
        · have hbit := and_one N0 s (by omega)
          by_cases hb1 : bit N0 s = 1
          · rw [hb1] at hbit
            have hg1 : evalCode t.goal s = true := by rw [← HN0.out s hlt2, hb1]; rfl
            have hne := HGL.out s hlt2 hg1
            rw [Int.toNat_natCast, HZ.out, HPZ.out, HR0.out] at hne
            have hand3 := i64_and_nat s F (by omega) (by omega)
            have hand4 : s &&& F < 32 := Nat.lt_of_le_of_lt Nat.and_le_left hlt2
            obtain ⟨y, hy⟩ : ∃ y, s &&& F = y := ⟨_, rfl⟩
            rw [hy] at hand3 hand4 hne
            obtain ⟨py, hpy⟩ : ∃ x, popc y = x := ⟨_, rfl⟩
            have HPY := Bx.mk hpy
            rw [hpy] at hne
            obtain ⟨r1, hr1⟩ : ∃ r, py % 2 = r := ⟨_, rfl⟩
            have ht := tmodP2 py r1 hr1
            rw [hr1] at hne
            have hbe : ((r1 : Int) == (r0 : Int)) = false := beq_false_of_ne (by omega)
            clear hb1 hg1 hy hpy hr1
            go_wp2_with fail
            refine (countBits_nat y (by omega) _).mono ?_
            rintro e w6 ⟨rfl, rfl⟩
            rw [HPY.out]
            go_wp2
            go_roundw
            case rel => exact ⟨s + 1, by omega, by go_num, by trivial⟩
            case measure => simp [intOf]; omega
          · have hb0 : bit N0 s = 0 := by have := bit_lt N0 s; omega
            rw [hb0] at hbit
            clear hb1 hb0
            go_wp2
            go_roundw
            case rel => exact ⟨s + 1, by omega, by go_num, by trivial⟩
            case measure => simp [intOf]; omega
        · go_wp2
          go_ret
          exact ⟨rfl, HS5.out⟩
end Go.Proofs.Ytfgebdioffeliaa
