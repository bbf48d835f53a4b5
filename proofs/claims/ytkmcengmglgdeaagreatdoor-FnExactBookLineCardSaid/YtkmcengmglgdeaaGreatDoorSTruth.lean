/- Joined texts: Truth, Behind. -/
import Derived.Test.YtkmcengmglgdeaaGreatDoorSPerm
import Derived.Test.YtkmcengmglgdeaaGreatDoorSPlanW

namespace Go.Proofs.YtkmcengmglgdeaaGreatDoor
set_option linter.unusedVariables false
set_option linter.unusedSimpArgs false
set_option maxRecDepth 100000
set_option maxHeartbeats 8000000
open Go.ChangeShapes Go.WideShapes Go.ChangeAt Go.RowKit
def truthN (xs : List Int) : Nat := mset (evalCode xs) 32
def codeTruth (xs : List Int) : Int := if codeOk xs then (truthN xs : Int) else -1
theorem codeTruth_no (xs : List Int) (h : codeOk xs = false) : codeTruth xs = -1 := if_neg (by rw [h]; simp)
theorem codeTruth_yes (xs : List Int) (h : codeOk xs = true) : codeTruth xs = (truthN xs : Int) := if_pos h
theorem mset32_lt (p : Nat → Bool) : mset p 32 < 4294967296 := mset_lt p 32
theorem pow32_lt {k : Nat} (h : k < 32) : 2 ^ k < 4294967296 := Nat.pow_lt_pow_right (a := 2) (n := 32) (by omega) h
theorem or_member {p q : Nat → Bool} {M k : Nat} (hk : k < 32) (hM : M = mset p 32) (hq : ∀ j, j < 32 → q j = (p j || decide (k = j))) : bits .or .i64 (M : Int) (2 ^ k) = ((mset q 32 : Nat) : Int) := by
 have h1 := mset32_lt p; have h2 := pow32_lt hk
 have := i64_or_nat M (2 ^ k) (by omega) (by omega)
 rw [show M ||| 2 ^ k = mset q 32 by rw [hM, mset_or_bit _ _ _ hk]; exact (mset_congr hq).symm] at this
 simpa using this
theorem upto_next (p : Nat → Bool) (k : Nat) (h : p k = true) : ∀ j, j < 32 → upto p (k + 1) j = (upto p k j || decide (k = j)) := by
 intro j _
 unfold upto
 by_cases e : k = j
 ·subst e; simp [h]
 ·simp [e, show (j < k + 1) ↔ (j < k) by omega]
theorem upto_same (p : Nat → Bool) (k : Nat) (h : p k = false) : mset (upto p (k + 1)) 32 = mset (upto p k) 32 := mset_upto_no p 32 k h
theorem truth_done {xs : List Int} {M k : Nat} (hM : M = mset (upto (evalCode xs) k) 32) (hk : k = 32) : (M : Int) = (truthN xs : Nat) := by rw [hM, hk, mset_uptoN]; rfl
theorem codeTruth_impl (A : Option Addr) (n c : Nat) (xs : List Int) (w : World) (h : RdI .i64 w w.heap.size A n c xs) :
  Calls Tryz.prog 88 #[.slice A n c] w fun e w' => e = .returned (.int .i64 (codeTruth xs)) ∧ Below w.heap.size w w' := by
 obtain ⟨bo, hok⟩ : ∃ b, codeOk xs = b := ⟨_, rfl⟩; have HOK := Lib.hid hok; clear hok; have HR := Lib.hid h; clear h
 cases bo with
 | false =>
  go_enter Tryz.func88, Tryz.ntmps88
  go_wp2_with fail
  refine (codeValid_impl A n c xs _ HR.out).mono ?_; rw [HOK.out]; rintro e w1 ⟨rfl, rfl⟩; go_wp2; go_ret; exact ⟨ret_int (codeTruth_no xs HOK.out).symm, Below.refl _ _⟩
 | true =>
  go_enter Tryz.func88, Tryz.ntmps88
  go_wp2_with fail
  refine (codeValid_impl A n c xs _ HR.out).mono ?_; rw [HOK.out]; rintro e w1 ⟨rfl, rfl⟩; go_wp2
  go_loopw [8, 3] (fun i sv wr => ∃ k M : Nat, k ≤ 32 ∧ i = .int .i64 k ∧ sv = .int .i64 M ∧ Hid (M = mset (upto (evalCode xs) k) 32) ∧ Below w.heap.size w wr) (fun i _ _ => 32 - (intOf i).toNat)
  case atStart => exact ⟨0, 0, by omega, rfl, rfl, Lib.hid (mset_upto0 _ _).symm, Below.refl _ _⟩
  case round =>
   obtain ⟨k, M, hk, rfl, rfl, HM, hbel⟩ := hrel; have HB := Lib.hid hbel; clear hbel
   by_cases hlt : k < 32
   ·obtain ⟨bv, hv⟩ : ∃ b, evalCode xs k = b := ⟨_, rfl⟩; have HV := Lib.hid hv; clear hv
    go_wp2_with fail
    refine (runCode_any A n c xs k _ (HR.out.up HB.out) HOK.out hlt).mono ?_; rw [HV.out]; rintro e w2 ⟨rfl, hb2⟩; have HB2 := Lib.hid (HB.out.trans (hb2.mono HB.out.size)); clear hb2
    cases bv with
    | true =>
     have hpw := wrap_pow k (by omega); have hor := or_member hlt HM.out (upto_next (evalCode xs) k HV.out); go_wp2
     go_roundw
     case rel => exact ⟨k + 1, _, by omega, by go_num, rfl, Lib.hid rfl, HB2.out⟩
     case measure => simp [intOf]; omega
    | false =>
     have HM2 : Hid (M = mset (upto (evalCode xs) (k + 1)) 32) := Lib.hid (HM.out.trans (upto_same _ k HV.out).symm); go_wp2
     go_roundw
     case rel => exact ⟨k + 1, M, by omega, by go_num, rfl, HM2, HB2.out⟩
     case measure => simp [intOf]; omega
   ·have HF := Lib.hid (truth_done HM.out (show k = 32 by omega)); go_wp2; go_ret; exact ⟨ret_int (by rw [HF.out, codeTruth_yes xs HOK.out]), HB.out⟩
theorem codeTruth_spec (A : Option Addr) (n c : Nat) (xs : List Int) (w : World) (h : RdI .i64 w w.heap.size A n c xs) (hn : n ≤ 1048576) :
  Calls Tryz.prog 174 #[.slice A n c] w fun e w' => e = .returned (.int .i64 (codeTruth xs)) ∧ Below w.heap.size w w' := by
 obtain ⟨bo, hok⟩ : ∃ b, codeOk xs = b := ⟨_, rfl⟩; have HOK := Lib.hid hok; clear hok; have HR := Lib.hid h; clear h
 cases bo with
 | false =>
  go_enter Tryz.func174, Tryz.ntmps174
  go_wp2_with fail
  refine (codeValid_spec A n c xs _ HR.out (by omega)).mono ?_; rw [HOK.out]; rintro e w1 ⟨rfl, rfl⟩; go_wp2; go_ret; exact ⟨ret_int (codeTruth_no xs HOK.out).symm, Below.refl _ _⟩
 | true =>
  go_enter Tryz.func174, Tryz.ntmps174
  go_wp2_with fail
  refine (codeValid_spec A n c xs _ HR.out (by omega)).mono ?_; rw [HOK.out]; rintro e w1 ⟨rfl, rfl⟩; go_wp2
  go_loopw [4, 3] (fun i sv wr => ∃ k M : Nat, k ≤ 32 ∧ i = .int .i64 k ∧ sv = .int .i64 M ∧ M < 2 ^ k ∧ Hid (M = mset (upto (evalCode xs) k) 32) ∧ Below w.heap.size w wr) (fun i _ _ => 32 - (intOf i).toNat)
  case atStart => exact ⟨0, 0, by omega, rfl, rfl, by omega, Lib.hid (mset_upto0 _ _).symm, Below.refl _ _⟩
  case round =>
   obtain ⟨k, M, hk, rfl, rfl, hM, HM, hbel⟩ := hrel; have HB := Lib.hid hbel; clear hbel
   by_cases hlt : k < 32
   ·obtain ⟨bv, hv⟩ : ∃ b, evalCode xs k = b := ⟨_, rfl⟩; have HV := Lib.hid hv; clear hv; have hpw := wrap_pow k (by omega); have hpl := pow32_lt hlt; have HMK := Lib.hid hM; clear hM
    go_wp2_with fail
    refine (l5Run_any A n c xs k _ (HR.out.up HB.out) HOK.out hlt).mono ?_; rw [HV.out]; rintro e w2 ⟨rfl, hb2⟩; have HB2 := Lib.hid (HB.out.trans (hb2.mono HB.out.size)); clear hb2
    cases bv with
    | true =>
     obtain ⟨M2, hM2⟩ : ∃ M2, M + 2 ^ k = M2 := ⟨_, rfl⟩; have hadd : (M : Int) + 2 ^ k = (M2 : Int) := by rw [← hM2]; push_cast; rfl
     have HM2 : Hid (M2 = mset (upto (evalCode xs) (k + 1)) 32) := Lib.hid (by rw [← hM2, mset_upto_add _ 32 k hlt HV.out, ← HM.out]); have hlt2 : M2 < 2 ^ (k + 1) := by rw [← hM2, Nat.pow_succ]; have := HMK.out; omega
     have hl2 : M2 < 4294967296 := by rw [HM2.out]; exact mset32_lt _
     have HL2 := Lib.hid hlt2; clear hM2 hlt2; go_wp2
     go_roundw
     case rel => exact ⟨k + 1, M2, by omega, by go_num, by first | rfl | go_num | (congr 1; rw [hadd]), HL2.out, HM2, HB2.out⟩
     case measure => simp [intOf]; omega
    | false =>
     have HM2 : Hid (M = mset (upto (evalCode xs) (k + 1)) 32) := Lib.hid (HM.out.trans (upto_same _ k HV.out).symm); go_wp2
     go_roundw
     case rel => exact ⟨k + 1, M, by omega, by go_num, rfl, by rw [Nat.pow_succ]; have := HMK.out; omega, HM2, HB2.out⟩
     case measure => simp [intOf]; omega
   ·have HF := Lib.hid (truth_done HM.out (show k = 32 by omega)); clear hM; go_wp2; go_ret; exact ⟨ret_int (by rw [HF.out, codeTruth_yes xs HOK.out]), HB.out⟩
def behF (ds : List DeedD) (i : Nat) : Int := match ds[i / 32]? with
 | some d => opt (deedDo d (i % 32))
 | none => -1
def behL (ds : List DeedD) : List Int := (List.range (ds.length * 32)).map (behF ds)
theorem behL_len (ds : List DeedD) : (behL ds).length = ds.length * 32 := by simp [behL]
theorem behL_at (ds : List DeedD) (k s : Nat) (d : DeedD) (hd : ds[k]? = some d) (hs : s < 32) : (behL ds)[k * 32 + s]? = some (opt (deedDo d s)) := by
 have hk := (List.getElem?_eq_some_iff.1 hd).1
 unfold behL
 rw [List.getElem?_map, List.getElem?_range (by omega)]; simp only [Option.map_some, behF]; rw [show (k * 32 + s) / 32 = k by omega, show (k * 32 + s) % 32 = s by omega, hd]
theorem madeCells_rep (z : Value) (n : Nat) : madeCells (Array.replicate 32 z) n = Array.replicate n z := by
 apply Array.ext
 ·simp [madeCells]
 ·intro i h1 h2; have h3 : i % 32 < 32 := Nat.mod_lt _ (by omega)
  simp [madeCells, getElem!_pos, h3]
theorem fillI_zero (ys : List Int) : fillI ys 0 = Array.replicate ys.length (.int .i64 0) := by
 apply Array.ext'
 simp [fillI, ints]
theorem elBeh : ElemT Tryz.prog 103 108 (.agg (Array.replicate 32 (.int .i64 0))) 32 256 := ⟨Tryz.underlying103, info_parts (by kernel_rfl), rfl, by omega⟩
def rBeh (v : Value) (ds : List DeedD) : HRes := rRow 108 32 v ds.length (ints (behL ds))
theorem own_rd {w : World} {base : Nat} {e : TypeId} {size n : Nat} {v : Value} {xs : List Value} (h : w.ownsRow base e size v n xs) : ∃ A c, v = .slice A n c ∧ RdRow w w.heap.size size A n c xs := by
 obtain ⟨hl, h2⟩ := h
 rcases h2 with ⟨rfl, rfl⟩ | ⟨g, cap, cur, rfl, hb, hh, h3, h4, h5, h6⟩
 ·exact ⟨none, 0, rfl, hl, Nat.le_refl _, by unfold maxLen; omega, fun h => absurd h (by omega)⟩
 ·refine ⟨_, _, rfl, hl, h3, h4, fun _ => ⟨g, 0, rfl, (Array.getElem?_eq_some_iff.1 hh).1, fun i x hx => ?_⟩⟩; have hc : w.cell? ⟨g, 0 + i, none⟩ = cur[i]? := by rw [Nat.zero_add]; exact cell_of_row w g i cur e (0, 0) hh
  rw [hc]; have h7 : (cur.toList.take (n * size))[i]? = some x := by rw [h6]; exact hx
  rw [List.getElem?_take] at h7
  split at h7
  ·simpa using h7
  ·cases h7
theorem St.rdRow {w W : World} {L : List HRes} (h : St w W L) (i : Nat) {e : TypeId} {size n : Nat} {v : Value} {cells : List Value} (hi : L[i]? = some (rRow e size v n cells)) : ∃ A c, v = .slice A n c ∧ RdRow W W.heap.size size A n c cells := own_rd (h.row i hi)
theorem RdRow.below {w w' : World} {B size : Nat} {A : Option Addr} {n c : Nat} {vs : List Value} (h : RdRow w B size A n c vs) (hb : Below B w w') : RdRow w' B size A n c vs :=
 ⟨h.len, h.cap, h.capMax, fun hn => by
  obtain ⟨b, off, e, hb', hc⟩ := h.at_ hn
  exact ⟨b, off, e, hb', fun i v hv => (bcells hb b _ hb').trans (hc i v hv)⟩⟩
theorem RdRow.up {w w' : World} {size : Nat} {A : Option Addr} {n c : Nat} {vs : List Value} (h : RdRow w w.heap.size size A n c vs) (hb : Below w.heap.size w w') : RdRow w' w'.heap.size size A n c vs := by
 have k := h.below hb
 exact ⟨k.len, k.cap, k.capMax, fun hn => by
  obtain ⟨b, off, e, hb', hc⟩ := k.at_ hn
  exact ⟨b, off, e, by have := hb.size; omega, hc⟩⟩
theorem behindAll_any (v : Value) (t : TaskD) (w : World) (h : RdT w w.heap.size v t) (hok : taskOk t = true) :
  Calls Tryz.prog 86 #[v] w (Gives w id fun v => [rBeh v t.deeds]) := by
 obtain ⟨G, gn, gc, G', n', c', rfl, hg, hgs, hds, hst⟩ := h; have S0 := (St.refl w).alloc #[.int .i64 t.start, .slice G gn gc, .slice G' n' c'] 26; have HDL := Lib.hid hds.len; have hn6 : n' ≤ 6 := by rw [← HDL.out]; exact (taskOk_parts t hok).2.2.1
 have HDOK := Lib.hid (taskOk_parts t hok).2.2.2; obtain ⟨ys, hys⟩ : ∃ ys, behL t.deeds = ys := ⟨_, rfl⟩; have HYS := Lib.hid hys; have HYL : Hid (ys.length = n' * 32) := Lib.hid (by rw [← hys, behL_len, HDL.out]); obtain ⟨i0, hi, hz0, hz1, hz2⟩ := elBeh.hi; have HS0 := Lib.hid S0; have HDS := Lib.hid hds; have HQ : Hid (∀ w2, (w.alloc (.cells #[.int .i64 t.start, .slice G gn gc, .slice G' n' c'] 26)).grownBy w2 none → ∀ j, w2.cell? ⟨w.heap.size, j, none⟩ = #[Value.int .i64 t.start, .slice G gn gc, .slice G' n' c'][j]?) := Lib.hid fun w2 hgr => (S0.quiet ((Below.refl _ _).grown hgr (Nat.le_refl _) (by simp))).cells 0 rfl
 unfold rBeh
 rw [hys]; clear S0 hok hys hds; go_enter Tryz.func86, Tryz.ntmps86
 go_wp2_with (at_make; refine wpList_make_full _ rfl _ _ 103 rfl (w.heap.size + 1) 108 i0 _ 32 Tryz.underlying103 hi hz0 hz1 _ _ _ _ n' rfl rfl rfl rfl (by rw [hz2]; omega) (by unfold maxLen; omega) (by simp) ?_; intro w2 hown hgr; have q0 := HQ.out w2 hgr)
 have hb2 : Below (w.heap.size + 1) (w.alloc (.cells #[.int .i64 t.start, .slice G gn gc, .slice G' n' c'] 26)) w2 := (Below.refl _ _).grown hgr (by simp) (by simp); obtain ⟨g, hg0⟩ : ∃ g, (w.alloc (.cells #[.int .i64 t.start, .slice G gn gc, .slice G' n' c'] 26)).heap.size = g := ⟨_, rfl⟩; have hgw : w.heap.size + 1 = g := by rw [← hg0]; simp
 have hk1 : Blk w2 g 108 (fillI ys 0) := by
  rcases hown.2 with ⟨e, -⟩ | ⟨g', cap, cur, e, -, hh, -, -, hs, ht⟩
  ·cases e
  ·simp only [Value.slice.injEq, Option.some.injEq, Addr.mk.injEq] at e; obtain ⟨⟨rfl, -⟩, -, rfl⟩ := e
   have : cur = fillI ys 0 := by
    rw [fillI_zero, HYL.out, ← madeCells_rep]
    apply Array.ext'
    rw [List.take_of_length_le (by simp [hs])] at ht
    simpa [Value.cells] using ht
   rw [← this, ← hg0]; exact hh
 have S2 : St w w2 [rBlk w.heap.size 26 #[.int .i64 t.start, .slice G gn gc, .slice G' n' c'], rBlk g 108 (fillI ys 0)] := HS0.out.call ⟨by rw [hg0, ← hgw]; exact hb2, [[g]], rfl, fun i R F hR hF => by
  match i with
  | 0 => injection hR with hR; injection hF with hF; subst hR hF; exact ⟨⟨hk1, rfl⟩, by rw [hg0]; simp⟩
  | i + 1 => simp at hR, by simp⟩
 have HS2 := Lib.hid S2
 try rw [hg0]
 try rw [hgw]
 clear hown hgr hb2 hk1 S2 hg0 hgw; go_wp2
 go_loopw [14] (fun i wr => ∃ k : Nat, k ≤ n' ∧ i = .int .i64 k ∧ St w wr [rBlk w.heap.size 26 #[.int .i64 t.start, .slice G gn gc, .slice G' n' c'], rBlk g 108 (fillI ys (k * 32))]) (fun i _ => n' - (intOf i).toNat)
 case atStart => exact ⟨0, by omega, rfl, HS2.out⟩
 case round =>
  obtain ⟨k, hk, rfl, M⟩ := hrel; have HM := Lib.hid M; clear M q0
  by_cases hlt : k < n'
  ·obtain ⟨b, off, d, rfl, hb, hd, hda⟩ := HDS.out.get hlt; obtain ⟨An, nn, cn, p0, p1, p2, p3, hneed, hnn, -⟩ := hda; have r0 : wr.cell? ⟨b, off + k * 4, none⟩ = some (.slice An nn cn) := (bcells HM.out.below b _ hb).trans p0; have r1 : wr.cell? ⟨b, off + k * 4 + 1, none⟩ = some (.int .i64 d.on) := (bcells HM.out.below b _ hb).trans p1; have r2 : wr.cell? ⟨b, off + k * 4 + 2, none⟩ = some (.int .i64 d.off) := (bcells HM.out.below b _ hb).trans p2; have r3 : wr.cell? ⟨b, off + k * 4 + 3, none⟩ = some (.int .i64 d.flip) := (bcells HM.out.below b _ hb).trans p3; have HDK := Lib.hid (HDOK.out d (List.mem_of_getElem? hd)); have HND := Lib.hid hneed; have HD0 := Lib.hid hd; have HS3 : Hid (St w (wr.alloc (.cells #[.slice An nn cn, .int .i64 d.on, .int .i64 d.off, .int .i64 d.flip] 144)) [rBlk w.heap.size 26 #[.int .i64 t.start, .slice G gn gc, .slice (some ⟨b, off, none⟩) n' c'], rBlk g 108 (fillI ys (k * 32)), rBlk wr.heap.size 144 #[.slice An nn cn, .int .i64 d.on, .int .i64 d.off, .int .i64 d.flip]]) := Lib.hid (HM.out.alloc _ _); clear p0 p1 p2 p3 hneed hd; obtain ⟨dd, hdd⟩ : ∃ dd, wr.heap.size = dd := ⟨_, rfl⟩; rw [hdd] at HS3; go_wp2
   try rw [hdd]
   clear r0 r1 r2 r3 hdd
   go_loopw [19] (fun i wr => ∃ m : Nat, m ≤ 32 ∧ i = .int .i64 m ∧ St w wr [rBlk w.heap.size 26 #[.int .i64 t.start, .slice G gn gc, .slice (some ⟨b, off, none⟩) n' c'], rBlk g 108 (fillI ys (k * 32 + m)), rBlk dd 144 #[.slice An nn cn, .int .i64 d.on, .int .i64 d.off, .int .i64 d.flip]]) (fun i _ => 32 - (intOf i).toNat)
   case atStart => exact ⟨0, by omega, rfl, HS3.out⟩
   case round =>
    obtain ⟨m, hm32, rfl, M3⟩ := hrel; have HM3 := Lib.hid M3; clear M3
    by_cases hm : m < 32
    ·have HY : Hid (ys[k * 32 + m]? = some (opt (deedDo d m))) := Lib.hid (by rw [← HYS.out]; exact behL_at t.deeds k m d HD0.out hm)
     go_upto_region 8 with (fail)
     refine wpr (σ := Unit)
      (fun s i => match i with
       | 0 => .slice (some ⟨g, 0, none⟩) n' n'
       | 1 => .int .i64 k
       | 2 => .int .i64 m
       | 3 => .agg #[.slice An nn cn, .int .i64 d.on, .int .i64 d.off, .int .i64 d.flip]
       | 4 => .int .i64 m
       | 5 => .int .i64 (opt (deedDo d m))
       | 6 => .pointer (some ⟨g, k * 32, none⟩)
       | 7 => .pointer (some ⟨g, k * 32 + m, none⟩)
       | _ => undef)
      (fun D s wx => Sn w wx fun i => match i with
       | 0 => some (rBlk w.heap.size 26 #[.int .i64 t.start, .slice G gn gc, .slice (some ⟨b, off, none⟩) n' c'])
       | 1 => some (rBlk g 108 (if D 8 = true then fillI ys (k * 32 + m + 1) else fillI ys (k * 32 + m)))
       | 2 => some (rBlk dd 144 #[.slice An nn cn, .int .i64 d.on, .int .i64 d.off, .int .i64 d.flip])
       | _ => none)
      () ?_ ?_ ?_
     ·intro D hD; refine ((Sn.of_st HM3.out).quiet ((Below.refl _ _).drew)).congr fun i => ?_
      match i with
      | 0 => rfl
      | 1 => simp only [hD 8 (by decide)]; rfl
      | 2 => rfl
      | q + 3 => rfl
     ·refine Cs (fun D s wx hR _ hd _ _ hs K hK => ?_) ?_
      ·have e3 := hs.o 3 (.slice (some ⟨g, 0, none⟩) n' n'); clear hs; go_simp; exact hK s wx sv hR
      refine Cs (fun D s wx hR _ hd _ _ hs K hK => ?_) ?_
      ·have e4 := hs.o 4 (.int .i64 k); clear hs; go_simp; exact hK s wx sv hR
      refine Cs (fun D s wx hR _ hd _ _ hs K hK => ?_) ?_
      ·have e6 := hs.o 6 (.int .i64 m); clear hs; go_simp; exact hK s wx sv hR
      refine Cs (fun D s wx hR _ hd _ _ hs K hK => ?_) ?_
      ·have e5 := hs.o 5 (.pointer (some ⟨dd, 0, none⟩)); clear hs; have qk := (hR.blk 2 rfl).cell; go_simp; exact hK s wx sv hR
      refine Cs (fun D s wx hR _ hd _ _ hs K hK => ?_) ?_
      ·have e6 := hs.o 6 (.int .i64 m); clear hs; go_simp; exact hK s wx sv hR
      refine Cs (fun D s wx hR _ hd _ _ hs K hK => ?_) ?_
      ·have e25 := hs.v 3 25 hd; have e26 := hs.v 4 26 hd; have g25 := getQ e25; have g26 := getQ e26; clear hs; go_simp; refine (behindDeed_any An nn cn d m _ (HND.out.up hR.below) HDK.out hm).mono ?_; rintro e w2 ⟨rfl, hb2⟩; exact hK s w2 sv (hR.quiet hb2)
      refine Cs (fun D s wx hR _ hd _ _ hs K hK => ?_) ?_
      ·have e22 := hs.v 0 22 hd; have e23 := hs.v 1 23 hd; clear hs; go_simp; exact hK s wx sv hR
      refine Cs (fun D s wx hR _ hd _ _ hs K hK => ?_) ?_
      ·have e28 := hs.v 6 28 hd; have e24 := hs.v 2 24 hd; clear hs; go_simp; exact hK s wx sv hR
      refine Cs (fun D s wx hR (hDi : D 8 = false) hd _ _ hs K hK => ?_) ?_
      ·have e29 := hs.v 7 29 hd; have e27 := hs.v 5 27 hd; clear hs; have kb : Blk wx g 108 (fillI ys (k * 32 + m)) := hR.blk 1 (by simp only [hDi]; rfl); have c0 := (kb.cell (k * 32 + m)).trans (fillI_at ys (k * 32 + m) (by rw [HYL.out]; omega)); have f0 := kb.frozen (k * 32 + m); go_simp
       refine hK s _ sv ((hR.set 1 (t := 108) (cs := fillI ys (k * 32 + m)) (by simp only [hDi]; rfl) (k * 32 + m) _).congr
         (fun i => by
          match i with
          | 0 => rfl
          | 1 => rw [fillI_step ys _ _ HY.out]; rfl
          | 2 => rfl
          | q + 3 => exact (if_neg (show ¬ (q + 3 = 1) by omega)).symm))
      exact StepAll.nil
     ·intro D s wx hR hD; simp only [putA, Act.put, List.setIfInBounds_toArray, List.set_cons_zero, List.set_cons_succ]; have S6 : St w wx [rBlk w.heap.size 26 #[.int .i64 t.start, .slice G gn gc, .slice (some ⟨b, off, none⟩) n' c'], rBlk g 108 (fillI ys (k * 32 + (m + 1))), rBlk dd 144 #[.slice An nn cn, .int .i64 d.on, .int .i64 d.off, .int .i64 d.flip]] := hR.to_st [0, 1, 2] (by decide) (by simp only [List.map, hD 8 (by decide)]; rfl); have HS6 := Lib.hid S6; clear S6 hR hD; go_wp2
      go_roundw
      case rel => exact ⟨m + 1, by omega, by go_num, HS6.out⟩
      case measure => simp [intOf]; omega
    ·have HS6 : Hid (St w wr [rBlk w.heap.size 26 #[.int .i64 t.start, .slice G gn gc, .slice (some ⟨b, off, none⟩) n' c'], rBlk g 108 (fillI ys ((k + 1) * 32))]) := Lib.hid (by
      have := HM3.out.pick [0, 1] (by decide) rfl rfl
      rw [show k * 32 + m = (k + 1) * 32 by omega] at this
      exact this)
     go_wp2
     go_roundw
     case rel => exact ⟨k + 1, by omega, by go_num, HS6.out⟩
     case measure => simp [intOf]; omega
  ·have HF : Hid (St w wr [rRow 108 32 (.slice (some ⟨g, 0, none⟩) n' n') t.deeds.length (ints ys)]) := Lib.hid ((HM.out.pick [1] (by decide) rfl rfl).see fun F h1 _ => by
    obtain ⟨h1, rfl⟩ := h1
    have e : fillI ys (k * 32) = (ints ys).toArray := by
     apply Array.ext'
     rw [show k * 32 = ys.length by rw [HYL.out]; omega, fillI_done]
    rw [e] at h1; refine ⟨⟨by simp [HYL.out, HDL.out], .inr ⟨g, n', (ints ys).toArray, ?_, Nat.zero_le _, h1, by rw [HDL.out]; exact Nat.le_refl _, by unfold maxLen; omega, by simp [HYL.out], ?_⟩⟩, rfl⟩
    ·rw [HDL.out]
    ·rw [List.take_of_length_le (by simp [HYL.out, HDL.out])])
   go_wp2; go_ret; exact ⟨_, rfl, HF.out⟩
end Go.Proofs.YtkmcengmglgdeaaGreatDoor
