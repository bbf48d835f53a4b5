/- Acts as arguments: as they came in; toAct, toActS, szActS of the exact laws. -/
import Derived.Test.YtadlfffhddpajaaDoorSRest
import Derived.Test.YtadlfffhddpajaaDoorSPush
import Derived.Test.YtadlfffhddpajaaDoorSSearch
import Derived.Laws.StructEq
namespace Go.Proofs.YtadlfffhddpajaaDoor
set_option linter.unusedVariables false
set_option linter.unusedSimpArgs false
open Go.ChangeShapes Go.WideShapes Go.ChangeAt Go.RowKit Go.Deep

section
variable {H : Type} {enc : TypeId × Value → H} {W : World} {base : Nat} {spare : Nat → Bool} {held : Bool} {fuel : Nat} {cs : List Value} {x : DataW H × List MemPlace}
theorem camC_act (h : DataW.trod enc Tryd.prog W base spare held fuel 43 cs = some x) : ∃ k m : Int, cs = [.int .i64 k, .int .i64 m] ∧ (Lit.int .i64 k).wf = true ∧ (Lit.int .i64 m).wf = true := by
  obtain ⟨ys, m, _, _, hl, hyl, hf⟩ := DataW.trod_struct Tryd.underlying43 h
  have hc : Tryd.prog.cellsOf 43 = 2 := by kernel_rfl
  rw [hc] at hl
  obtain ⟨c0, c1, rfl⟩ := len2 hl
  obtain ⟨y0, y1, rfl⟩ := len2 hyl
  · have h0 : DataW.trod enc Tryd.prog W base spare held m 3 (([c0, c1].drop 0).take (Tryd.prog.cellsOf 3)) = some y0 := hf 0 _ rfl
    rw [show Tryd.prog.cellsOf 3 = 1 by kernel_rfl] at h0
    have h1 : DataW.trod enc Tryd.prog W base spare held m 3 (([c0, c1].drop 1).take (Tryd.prog.cellsOf 3)) = some y1 := hf 1 _ rfl
    rw [show Tryd.prog.cellsOf 3 = 1 by kernel_rfl] at h1
    simp only [List.drop, List.take, List.getElem?_cons_zero, List.getElem?_cons_succ] at h0 h1
    obtain ⟨a0, e0, _, w0⟩ := DataW.trod_int Tryd.underlying3 h0
    obtain ⟨a1, e1, _, w1⟩ := DataW.trod_int Tryd.underlying3 h1
    simp only [List.cons.injEq, and_true] at e0 e1
    subst e0 e1
    exact ⟨a0, a1, rfl, w0, w1⟩
set_option maxRecDepth 100000 in
theorem camC_acts (h : DataW.trod enc Tryd.prog W base spare held fuel 22 cs = some x) : ∃ A n c aa, cs = [.slice A n c] ∧ RdA W W.heap.size A n c aa ∧ ∀ a ∈ aa, (Lit.int .i64 a.number).wf = true := by
  rcases open_slice Tryd.underlying22 h with ⟨hcs, _⟩ | ⟨a, len, cap, m, n, D, Pl, hcs, hb, hl, hm, hmm, hx, hi⟩
  · exact ⟨none, 0, 0, [], hcs, ⟨rfl, ⟨rfl, Nat.le_refl _, by unfold maxLen; omega, fun h0 => by omega⟩⟩, fun a ha => by cases ha⟩
  · have hc : Tryd.prog.cellsOf 43 = 2 := by kernel_rfl
    rw [hc] at hi
    have hlm : len ≤ m := by rw [hmm]; split <;> omega
    have hex : ∀ i, ∃ d : ActD, i < len → W.cell? (a.add (i * 2)) = some (.int .i64 d.kind) ∧ W.cell? ((a.add (i * 2)).add 1) = some (.int .i64 d.number) ∧ (Lit.int .i64 d.number).wf = true := fun i => by
      by_cases hil : i < len
      · obtain ⟨cs', h1, h2⟩ := hi i (by omega)
        obtain ⟨k, q, e, w1, w2⟩ := camC_act h2
        subst e
        obtain ⟨_, _, hat⟩ := World.cells?_some h1
        have q0 := hat 0 (by omega)
        have q1 := hat 1 (by omega)
        have hz : (a.add (i * 2)).add 0 = a.add (i * 2) := by cases a; simp [Addr.add]
        rw [hz] at q0
        exact ⟨⟨k, q⟩, fun _ => ⟨q0, q1, w2⟩⟩
      · exact ⟨⟨0, 0⟩, fun h => absurd h hil⟩
    obtain ⟨E, hE⟩ := Classical.axiomOfChoice hex
    clear hex hi
    have hal : ((List.range len).map E).length = len := by simp
    have hat : ∀ i, i < len → ((List.range len).map E)[i]? = some (E i) := fun i hi => by rw [List.getElem?_map, List.getElem?_range hi]; rfl
    refine ⟨some a, len, cap, (List.range len).map E, hcs, ⟨hal, ⟨by rw [ints_len, flatA_len, hal], hl, hm, fun h0 => ?_⟩⟩, fun d hd => ?_⟩
    · have ha : a.spot = none := by
        obtain ⟨q, -⟩ := hE 0 h0
        cases hs : a.spot with
        | none => rfl
        | some s =>
          simp only [World.cell?, Addr.add, hs] at q
          split at q <;> simp_all
      obtain ⟨b, off, s⟩ := a
      simp only at ha
      subst ha
      have hlt : b < W.heap.size := by
        obtain ⟨q, -⟩ := hE 0 h0
        exact World.block_lt_of_cell? W _ q
      refine ⟨b, off, rfl, hlt, fun i u hu => ?_⟩
      unfold ints at hu
      rw [List.getElem?_map] at hu
      obtain ⟨z, hz, rfl⟩ := Option.map_eq_some_iff.1 hu
      have hil := (List.getElem?_eq_some_iff.1 hz).1
      rw [flatA_len, hal] at hil
      obtain ⟨q0, q1, -⟩ := hE (i / 2) (by omega)
      obtain ⟨f0, f1⟩ := flatA_at _ (i / 2) _ (hat (i / 2) (by omega))
      simp only [Addr.add_lit] at q0 q1
      rcases Nat.mod_two_eq_zero_or_one i with hm | hm
      · have e : i = i / 2 * 2 := by omega
        rw [← e] at f0 q0
        rw [f0] at hz
        injection hz with hz
        subst hz
        exact q0
      · have e : i = i / 2 * 2 + 1 := by omega
        rw [← e] at f1
        rw [Nat.add_assoc, ← e] at q1
        rw [f1] at hz
        injection hz with hz
        subst hz
        exact q1
    · obtain ⟨i, hi⟩ := List.mem_iff_getElem?.1 hd
      have hil : i < len := by have := (List.getElem?_eq_some_iff.1 hi).1; rw [hal] at this; exact this
      rw [hat i hil] at hi
      injection hi with hi
      subst hi
      exact (hE i hil).2.2
set_option maxRecDepth 100000 in
theorem came_acts {a : Option Addr} {n c : Nat} {d : DataW H} {p : List MemPlace} (h : DataW.Trod enc Tryd.prog W 0 (fun _ => true) true 22 (.slice a n c) d p) : ∃ aa, RdA W W.heap.size a n c aa ∧ ∀ x ∈ aa, (Lit.int .i64 x.number).wf = true := by
  obtain ⟨fuel, hf⟩ := h
  obtain ⟨A, n', c', aa, e, h1, h2⟩ := camC_acts hf
  have e' : [Value.slice a n c] = [Value.slice A n' c'] := e
  simp only [List.cons.injEq, Value.slice.injEq, and_true] at e'
  obtain ⟨rfl, rfl, rfl⟩ := e'
  exact ⟨aa, h1, h2⟩
end
theorem toAct_any (k m : Int) (w : World) : Calls Tryd.prog 22 #[.agg #[.int .i64 k, .int .i64 m]] w fun e w' => e = .returned (.agg #[.int .i64 k, .int .i64 m]) ∧ Below w.heap.size w w' := by
  go_enter Tryd.func22, Tryd.ntmps22
  go_wp2
  refine bodyPost_ret (v := .agg #[.int .i64 k, .int .i64 m]) (by simp [results, Tryd.results22, go_sem]) rfl ⟨rfl, ?_⟩
  exact (((Below.refl _ _).alloc (Nat.le_refl _) _).alloc (by simp) _).alloc (by simp; omega) _
theorem szActS_any (A : Option Addr) (n c : Nat) (left : Int) (w : World) (hn : n ≤ 9223372036854775807) (h0 : 0 ≤ left) (h1 : left ≤ 1048576) :
    Calls Tryd.prog 7 #[.slice A n c, .int .i64 left] w fun e w' => e = .returned (.int .i64 (less left n)) ∧ Below w.heap.size w w' := by
  by_cases h : (n : Int) ≤ left
  · rw [less_yes h]
    go_enter Tryd.func7, Tryd.ntmps7
    go_wp2
    go_ret
    exact ⟨ret_int (by omega), Below.refl _ _⟩
  · rw [less_no h]
    go_enter Tryd.func7, Tryd.ntmps7
    go_wp2
    go_ret
    exact ⟨rfl, Below.refl _ _⟩
def fillA (aa : List ActD) (k : Nat) : List ActD := aa.take k ++ List.replicate (aa.length - k) ⟨0, 0⟩
theorem fillA_zero (aa : List ActD) : fillA aa 0 = List.replicate aa.length ⟨0, 0⟩ := by simp [fillA]
theorem fillA_len (aa : List ActD) (k : Nat) (h : k ≤ aa.length) : (fillA aa k).length = aa.length := by simp [fillA]; omega
theorem fillA_done (aa : List ActD) : fillA aa aa.length = aa := by simp [fillA]
theorem fillA_step (aa : List ActD) (k : Nat) (a : ActD) (h : aa[k]? = some a) : ((ints (flatA (fillA aa k))).set (k * 2) (.int .i64 a.kind)).set (k * 2 + 1) (.int .i64 a.number) = ints (flatA (fillA aa (k + 1))) := by
  obtain ⟨h1, h2⟩ := List.getElem?_eq_some_iff.1 h
  have e1 : fillA aa k = aa.take k ++ (⟨0, 0⟩ :: List.replicate (aa.length - (k + 1)) ⟨0, 0⟩) := by
    unfold fillA; rw [show aa.length - k = (aa.length - (k + 1)) + 1 by omega, List.replicate_succ]
  have e2 : fillA aa (k + 1) = aa.take k ++ (a :: List.replicate (aa.length - (k + 1)) ⟨0, 0⟩) := by
    unfold fillA; rw [List.take_succ_eq_append_getElem h1, h2, List.append_assoc]; rfl
  have hl : (flatA (aa.take k)).length = k * 2 := by rw [flatA_len, List.length_take]; omega
  rw [e1, e2]
  simp only [flatA_append, flatA_cons, ints, List.map_append, List.map_cons]
  have hl' : ((flatA (aa.take k)).map (Value.int .i64)).length = k * 2 := by rw [List.length_map, hl]
  rw [List.set_append_right _ _ (by omega), hl', Nat.sub_self, List.set_cons_zero, List.set_append_right _ _ (by omega), hl', show k * 2 + 1 - k * 2 = 1 by omega]
  rfl
theorem flatA_rep (n : Nat) : ints (flatA (List.replicate n ⟨0, 0⟩)) = List.replicate (n * 2) (.int .i64 0) := by
  induction n with
  | zero => rfl
  | succ n ih =>
    rw [List.replicate_succ, flatA_cons, show (n + 1) * 2 = n * 2 + 1 + 1 by omega, List.replicate_succ, List.replicate_succ, ← ih]; rfl
set_option maxHeartbeats 1000000 in
theorem toActS_st (A : Option Addr) (n c : Nat) (aa : List ActD) (w : World) (h : RdA w w.heap.size A n c aa) (hn : n ≤ 1048576) :
    Calls Tryd.prog 9 #[.slice A n c] w (Gives w id fun v => [rActs v aa]) := by
  have hl := h.1
  have hcap := h.2.cap
  have hcm := h.2.capMax
  unfold maxLen at hcm
  obtain ⟨i0, hi, hz0, hz1, hz2⟩ := elAct.hi
  have HL := Lib.hid hl; clear hl
  have H := Lib.hid h; clear h
  go_enter Tryd.func9, Tryd.ntmps9
  go_wp2_with (at_make; refine wpList_make_full _ rfl _ _ 25 rfl w.heap.size 31 i0 _ 2 Tryd.underlying25 hi hz0 hz1 _ _ _ _ n rfl rfl rfl rfl (by rw [hz2]; omega) (by unfold maxLen; omega) (Nat.le_refl _) ?_; intro w1 hown hgr)
  have hb1 : Below w.heap.size w w1 := (Below.refl _ _).grown hgr (Nat.le_refl _) (by simp)
  have hk1 : Blk w1 w.heap.size 31 (ints (flatA (fillA aa 0))).toArray := by
    rcases hown.2 with ⟨e, -⟩ | ⟨g, cap, cur, e, -, hh, -, -, hs, ht⟩
    · cases e
    · simp only [Value.slice.injEq, Option.some.injEq, Addr.mk.injEq] at e
      obtain ⟨⟨rfl, -⟩, -, rfl⟩ := e
      have : cur = (ints (flatA (fillA aa 0))).toArray := by
        rw [fillA_zero, flatA_rep, HL.out]
        apply Array.ext'
        rw [List.take_of_length_le (by simp [hs])] at ht
        rw [ht]
        have hmc : (madeCells (Value.agg #[.int .i64 0, .int .i64 0]).cells (n * 2)).toList = List.replicate (n * 2) (.int .i64 0) := by
          refine List.ext_getElem? fun j => ?_
          unfold madeCells
          by_cases hj : j < n * 2
          · simp [Value.cells, hj, List.getElem?_replicate]
            rcases Nat.mod_two_eq_zero_or_one j with hm | hm <;> simp [hm]
          · rw [List.getElem?_eq_none (by simp; omega), List.getElem?_eq_none (by simp; omega)]
        exact hmc
      rw [← this]; exact hh
  have HS1 : Hid (St w w1 [rBlk w.heap.size 31 (ints (flatA (fillA aa 0))).toArray]) := Lib.hid ⟨hb1, [[w.heap.size]], rfl, fun i R F hR hF => by
    match i with
    | 0 => injection hR with hR; injection hF with hF; subst hR hF; exact ⟨⟨hk1, rfl⟩, by simp⟩
    | i + 1 => simp at hR, by simp⟩
  clear hown hgr hb1 hk1
  go_wp2
  go_loopw [4] (fun i wr => ∃ k : Nat, k ≤ n ∧ i = .int .i64 k ∧ St w wr [rBlk w.heap.size 31 (ints (flatA (fillA aa k))).toArray]) (fun i _ => n - (intOf i).toNat)
  case atStart => exact ⟨0, by omega, rfl, HS1.out⟩
  case round =>
    clear HS1
    obtain ⟨k, hk, rfl, S⟩ := hrel
    have HS := Lib.hid S
    clear S
    by_cases hlt : k < n
    · obtain ⟨b, off, a, rfl, hb, hat, h0, h1⟩ := H.out.get hlt
      have r0 : wr.cell? ⟨b, off + k * 2, none⟩ = some (.int .i64 a.kind) := (bcells HS.out.below b _ hb).trans h0
      have r1 : wr.cell? ⟨b, off + k * 2 + 1, none⟩ = some (.int .i64 a.number) := (bcells HS.out.below b _ hb).trans h1
      have HAT := Lib.hid hat
      have hlti : (k : Int) < (n : Int) := by omega
      clear hat h0 h1
      go_wp2_with fail
      refine (toAct_any a.kind a.number _).mono ?_
      rintro e w2 ⟨rfl, hb2⟩
      have HS2 := Lib.hid (HS.out.quiet hb2)
      have hlen : (fillA aa k).length = n := by rw [fillA_len _ _ (by rw [HL.out]; exact hk), HL.out]
      have hat0 : (ints (flatA (fillA aa k)))[k * 2]? = some (.int .i64 0) ∧ (ints (flatA (fillA aa k)))[k * 2 + 1]? = some (.int .i64 0) := by
        have he : (fillA aa k)[k]? = some ⟨0, 0⟩ := by
          unfold fillA
          rw [List.getElem?_append_right (by rw [List.length_take, HL.out]; omega), List.length_take, HL.out, Nat.min_eq_left hk, Nat.sub_self, List.getElem?_replicate, if_pos (by omega)]
        obtain ⟨f0, f1⟩ := flatA_at _ k _ he
        unfold ints
        rw [List.getElem?_map, f0, List.getElem?_map, f1]
        exact ⟨rfl, rfl⟩
      have c0 : w2.cell? ⟨w.heap.size, k * 2, none⟩ = some (.int .i64 0) := ((HS2.out.blk 0 rfl).cell _).trans (by simpa using hat0.1)
      have c1 : w2.cell? ⟨w.heap.size, k * 2 + 1, none⟩ = some (.int .i64 0) := ((HS2.out.blk 0 rfl).cell _).trans (by simpa using hat0.2)
      have f0 := HS2.out.free 0 rfl
      have HN : Hid (St w ((w2.setCell ⟨w.heap.size, k * 2, none⟩ (.int .i64 a.kind)).setCell ⟨w.heap.size, k * 2 + 1, none⟩ (.int .i64 a.number)) [rBlk w.heap.size 31 (ints (flatA (fillA aa (k + 1)))).toArray]) := Lib.hid (by
        have := (HS2.out.set 0 rfl (k * 2) (.int .i64 a.kind)).set 0 rfl (k * 2 + 1) (.int .i64 a.number)
        rw [← fillA_step aa k a HAT.out]
        simpa using this)
      clear hb2 hlen hat0 HS2
      go_wp2
      go_roundw
      case rel => exact ⟨k + 1, by omega, by go_num, HN.out⟩
      case measure => simp [intOf]; omega
    · obtain rfl : k = n := by omega
      go_wp2
      go_ret
      refine ⟨_, rfl, HS.out.see fun F hF _ => ?_⟩
      obtain ⟨hb, rfl⟩ := hF
      have e : fillA aa k = aa := by have := fillA_done aa; rwa [HL.out] at this
      rw [e] at hb
      have ho : wr.ownsRow 0 31 2 (.slice (some ⟨w.heap.size, 0, none⟩) k k) k (Go.Proofs.YtadlfffhddpajaaDoor.ints (flatA aa)) :=
        ⟨by simp [flatA_len, HL.out], .inr ⟨_, k, _, rfl, Nat.zero_le _, hb, Nat.le_refl _, by unfold maxLen; omega, by simp [flatA_len, HL.out], List.take_of_length_le (by simp [flatA_len, HL.out])⟩⟩
      exact ⟨by rw [HL.out]; exact ho, rfl⟩
set_option maxRecDepth 100000 in
theorem sameActs_same (A : Option Addr) (n c : Nat) (aa : List ActD) (A' : Option Addr) (n' c' : Nat) (w : World) (h : RdA w w.heap.size A n c aa) (h' : RdA w w.heap.size A' n' c' aa) :
    Calls Tryd.prog 21 #[.slice A n c, .slice A' n' c'] w fun e w' => e = .returned (.bool true) ∧ Below w.heap.size w w' := by
  obtain rfl : n' = n := h'.1.symm.trans h.1
  have hcp := h.2.cap
  have hcm := h.2.capMax
  unfold maxLen at hcm
  have H := Lib.hid h
  have H' := Lib.hid h'
  clear h h'
  go_enter Tryd.func21, Tryd.ntmps21
  go_wp2
  go_loopw [5] (fun i wr => ∃ k : Nat, k ≤ n' ∧ i = .int .i64 k ∧ Below w.heap.size w wr) (fun i _ => n' - (intOf i).toNat)
  case atStart => exact ⟨0, by omega, rfl, Below.refl _ _⟩
  case round =>
    obtain ⟨k, hk, rfl, hbel⟩ := hrel
    have HB := Lib.hid hbel
    clear hbel
    by_cases hlt : k < n'
    · obtain ⟨b, off, a, rfl, hb, ha, q0, q1⟩ := (H.out.up HB.out).get hlt
      obtain ⟨b', off', a', rfl, hb', ha', q0', q1'⟩ := (H'.out.up HB.out).get hlt
      obtain rfl : a' = a := by have := ha'.symm.trans ha; injection this
      clear ha ha'
      go_wp2
      go_quiet (fail)
      go_wp2
      go_roundw
      case rel => exact ⟨k + 1, by omega, by go_num, below_drewN HB.out _⟩
      case measure => simp [intOf]; omega
    · go_wp2
      go_ret
      exact ⟨rfl, HB.out⟩
end Go.Proofs.YtadlfffhddpajaaDoor
