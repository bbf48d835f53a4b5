
import Derived.Test.YtkmcengmglgdeaaGreatDoorSPush
import Derived.WalkSpells
namespace Go.Proofs.YtkmcengmglgdeaaGreatDoor
set_option linter.unusedVariables false
set_option linter.unusedSimpArgs false
set_option maxRecDepth 100000
set_option maxHeartbeats 8000000
open Go.ChangeShapes Go.WideShapes Go.ChangeAt Go.RowKit
theorem clone_any (A : Option Addr) (n c : Nat) (xs : List Int) (w : World) (h : RdI .i64 w w.heap.size A n c xs) (hn : n ≤ 1048576) :
  Calls Tryz.prog 112 #[.slice A n c] w (Gives w id fun v => [rInts v xs]) := by
 have hl := h.len; have hw := h.wf
 cases A with
 | none =>
  have h0 : n = 0 := by
   rcases Nat.eq_zero_or_pos n with e | e
   ·exact e
   ·obtain ⟨b, off, e, -⟩ := h.at_ e; cases e
  subst h0; have hx : xs = [] := List.eq_nil_of_length_eq_zero hl; subst hx; have hnil : ∀ (w : World), (binOp .eql 23 (.slice none 0 c) (.slice none 0 0)).run Tryz.prog w = .ok (.bool true) w := fun w => Lib.run_eql_slice_nil w _ _ _ _ _ _ _ Tryz.underlying23
  go_enter Tryz.func112, Tryz.ntmps112; go_wp2; go_ret; exact ⟨_, rfl, rInts_nil _ _ (Below.refl _ _)⟩
 | some a =>
  have hol : (w.alloc (.cells #[] 3)).ownsRow w.heap.size 3 1 (.slice (some ⟨w.heap.size, 0, none⟩) 0 0) 0 [] := World.ownsRow_lit w #[] 0 (Nat.le_refl _) (by unfold maxLen; omega) rfl; have hnil : ∀ (w : World), (binOp .eql 23 (.slice (some a) n c) (.slice none 0 0)).run Tryz.prog w = .ok (.bool false) w := fun w => Lib.run_eql_slice_nil w _ _ _ _ _ _ _ Tryz.underlying23
  have hr := (h.below ((Below.refl _ _).alloc (Nat.le_refl _) (.cells #[] 3))).row; have HW := Lib.hid hw; have HL := Lib.hid hl; clear hw hl; go_enter Tryz.func112, Tryz.ntmps112
  go_wp2_with (at_builtin; refine wp_app elInt rfl _ _ rfl w.heap.size _ 0 [] rfl hol w.heap.size (some a) n c (ints xs) rfl hr (ints_cell _) (by omega) (by omega) (by simp) ?_; intro v2 w2 hown2 hg2 hat2)
  go_ret; refine ⟨v2, rfl, St.of_ints (F := v2.ownBlock.toList) ⟨?_, HW.out, rfl⟩ (((Below.refl _ _).alloc (Nat.le_refl _) (.cells #[] 3)).grown hg2 (by simp) (fun k hk => by have := (hol.lt k hk).1; omega))⟩; rw [HL.out]
  simpa using hown2
theorem St.new1At (W : World) (g : Nat) (cs : Array Value) (t : TypeId) (hg : g = W.heap.size) : St W (W.alloc (.cells cs t)) [rBlk g t cs] := by subst hg; exact St.new1 W cs t
theorem take_succ' {α : Type} {l : List α} {k : Nat} {x : α} (h : l[k]? = some x) : l.take (k + 1) = l.take k ++ [x] := by
 obtain ⟨h1, h2⟩ := List.getElem?_eq_some_iff.1 h; rw [List.take_succ_eq_append_getElem h1, h2]
theorem taskCopy_any (v : Value) (t : TaskD) (w : World) (h : RdT w w.heap.size v t) :
  Calls Tryz.prog 111 #[v] w (Gives w id fun v' => [rTask v' t]) := by
 obtain ⟨A, n, c, A', n', c', rfl, hg, hgs, hds, hst⟩ := h
 have S0 : St w ((w.alloc (Obj.cells #[.int .i64 t.start, .slice A n c, .slice A' n' c'] 26)).alloc (Obj.cells #[.int .i64 0, .slice none 0 0, .slice none 0 0] 26)) [rBlk w.heap.size 26 #[.int .i64 t.start, .slice A n c, .slice A' n' c'], rBlk (w.heap.size + 1) 26 #[.int .i64 0, .slice none 0 0, .slice none 0 0]] := by
  have := ((St.refl w).alloc #[.int .i64 t.start, .slice A n c, .slice A' n' c'] 26).alloc #[.int .i64 0, .slice none 0 0, .slice none 0 0] 26
  simpa using this
 have HG := Lib.hid hg; have hgl := hg.len; have HGL := Lib.hid hgl; have HS0 := Lib.hid S0; have hdl := hds.len; have hdsm := hds.small; have HDL := Lib.hid hdl; clear S0 hg hgl hdl; go_enter Tryz.func111, Tryz.ntmps111
 go_upto_region 1 with (fail)
 go_cut [3] (fun s3 wx => ∃ (T : Nat) (A2 : Option Addr) (c2 : Nat), s3 = .pointer (some ⟨T, 0, none⟩) ∧ St w wx [rBlk w.heap.size 26 #[.int .i64 t.start, .slice A n c, .slice A' n' c'], rBlk (w.heap.size + 1) 26 #[.int .i64 0, .slice none 0 0, .slice none 0 0], rInts (.slice A2 t.goal.length c2) t.goal, rBlk T 26 #[.int .i64 t.start, .slice A2 t.goal.length c2, .slice none 0 0]])
 case first =>
  refine wpr (σ := Option Addr × Nat × Nat × Nat)
   (fun s i => match i with
    | 0 => .pointer (some ⟨w.heap.size, 0, none⟩)
    | 1 => .int .i64 t.start
    | 2 => .pointer (some ⟨w.heap.size, 1, none⟩)
    | 3 => .slice A n c
    | 4 => .slice s.1 (t.goal).length s.2.1
    | 5 => .agg #[.int .i64 t.start, .slice s.1 (t.goal).length s.2.1, .slice none 0 0]
    | 6 => .pointer (some ⟨s.2.2.1, 0, none⟩)
    | _ => undef)
   (fun D s wx => Sn w wx fun i => match i with
    | 0 => some (rBlk w.heap.size 26 #[.int .i64 t.start, .slice A n c, .slice A' n' c'])
    | 1 => some (rBlk (w.heap.size + 1) 26 #[.int .i64 0, .slice none 0 0, .slice none 0 0])
    | 2 => if D 4 = true then some (rInts (.slice s.1 (t.goal).length s.2.1) (t.goal)) else none
    | 3 => if D 6 = true then some (rBlk s.2.2.1 26 (if D 7 = true then #[.int .i64 t.start, .slice s.1 (t.goal).length s.2.1, .slice none 0 0] else #[.int .i64 0, .slice none 0 0, .slice none 0 0])) else none
    | _ => none)
   (none, 0, 0, 0) ?_ ?_ ?_
  ·intro D hD; refine ((Sn.of_st HS0.out).quiet ((Below.refl _ _).drew)).congr fun i => ?_
   match i with
   | 0 | 1 => rfl
   | 2 => simp only [hD 4 (by decide)]; rfl
   | 3 => simp only [hD 6 (by decide)]; rfl
   | q + 4 => rfl
  ·refine Cs (fun D s wx hR _ hd _ _ hs K hK => ?_) ?_
   ·have e1 := hs.o 1 (.pointer (some ⟨w.heap.size, 0, none⟩)); clear hs; go_simp; exact hK s wx sv hR
   refine Cs (fun D s wx hR _ hd _ _ hs K hK => ?_) ?_
   ·have e6 := hs.v 0 6 hd; clear hs; have qk := (hR.blk 0 rfl).cell; go_simp; exact hK s wx sv hR
   refine Cs (fun D s wx hR _ hd _ _ hs K hK => ?_) ?_
   ·have e1 := hs.o 1 (.pointer (some ⟨w.heap.size, 0, none⟩)); clear hs; go_simp; exact hK s wx sv hR
   refine Cs (fun D s wx hR _ hd _ _ hs K hK => ?_) ?_
   ·have e8 := hs.v 2 8 hd; clear hs; have qk := (hR.blk 0 rfl).cell; go_simp; exact hK s wx sv hR
   refine Cs (fun D s wx hR (hDi : D 4 = false) hd hsh _ hs K hK => ?_) ?_
   ·have e9 := hs.v 3 9 hd; have g9 := getQ e9; clear hs; have n5 : D 5 = false := hsh.no hDi 5 rfl ⟨4, .data⟩ (by simp) rfl rfl; have n7 : D 7 = false := hsh.no n5 7 rfl ⟨5, .data⟩ (by simp) rfl rfl; go_simp; refine (clone_any A n c t.goal _ (HG.out.up hR.below) hgs).mono ?_; rintro e w2 ⟨v2, rfl, s2⟩; obtain ⟨A2, c2, hv, -⟩ := s2.rdI 0 rfl; subst hv
    refine hK (A2, c2, s.2.2) w2
     (fun j hj => by
      match j, hj with
      | 0, hj | 1, hj | 2, hj | 3, hj => rfl
      | 4, hj => rw [hDi] at hj; cases hj
      | 5, hj => rw [n5] at hj; cases hj
      | 6, hj | 7, hj => rfl
      | _ + 8, hj => rfl)
     ((hR.add 2 (if_neg (by rw [hDi]; simp)) s2).congr
      (fun i => by
       match i with
       | 0 | 1 | 2 => rfl
       | 3 => (show (if D 6 = true then some (rBlk _ _ (if D 7 = true then _ else _)) else none) = (if D 6 = true then some (rBlk _ _ (if D 7 = true then _ else _)) else none); rw [n7]; rfl)
       | q + 4 => exact (if_neg (show ¬ (q + 4 = 2) by omega)).symm))
   refine Cs (fun D s wx hR _ hd _ _ hs K hK => ?_) ?_
   ·have e7 := hs.v 1 7 hd; have e10 := hs.v 4 10 hd; have g7 := getQ e7; have g10 := getQ e10; clear hs; go_simp; exact hK s wx sv hR
   refine Cs (fun D s wx hR (hDi : D 6 = false) hd hsh _ hs K hK => ?_) ?_
   ·clear hs; have n7 : D 7 = false := hsh.no hDi 7 rfl ⟨6, .data⟩ (by simp) rfl rfl; go_simp
    refine hK (s.1, s.2.1, wx.heap.size, s.2.2.2) _
     (fun j hj => by
      match j, hj with
      | 0, hj | 1, hj | 2, hj | 3, hj | 4, hj | 5, hj => rfl
      | 6, hj => rw [hDi] at hj; cases hj
      | 7, hj => rfl
      | _ + 8, hj => rfl)
     ((hR.add 3 (if_neg (by rw [hDi]; simp)) (St.new1 wx #[.int .i64 0, .slice none 0 0, .slice none 0 0] 26)).congr
      (fun i => by
       match i with
       | 0 | 1 | 2 => rfl
       | 3 => (show some (rBlk _ _ (if D 7 = true then _ else _)) = some (rBlk _ _ _); rw [n7]; rfl)
       | q + 4 => exact (if_neg (show ¬ (q + 4 = 3) by omega)).symm))
   refine Cs (fun D s wx hR (hDi : D 7 = false) hd _ _ hs K hK => ?_) ?_
   ·have e3 := hs.v 6 3 hd; have e11 := hs.v 5 11 hd; clear hs; have dA : D 6 = true := hd ⟨6, .data⟩ (by simp) rfl; have kb := hR.blk 3 (by simp only [dA, hDi]; rfl); have f0 := kb.frozen; have c0 : wx.cell? ⟨s.2.2.1, 0, none⟩ = some (.int .i64 0) := kb.cell 0; have c1 : wx.cell? ⟨s.2.2.1, 1, none⟩ = some (.slice none 0 0) := kb.cell 1; have c2 : wx.cell? ⟨s.2.2.1, 2, none⟩ = some (.slice none 0 0) := kb.cell 2; go_simp
    exact hK s _ sv ((hR.set3 3 (by simp only [dA, hDi]; rfl) _ _ _).congr
     (fun i => by
      match i with
      | 0 | 1 | 2 => rfl
      | 3 => (show (if D 6 = true then some (rBlk _ _ _) else none) = some (rBlk _ _ _); rw [dA]; rfl)
      | q + 4 => exact (if_neg (show ¬ (q + 4 = 3) by omega)).symm))
   exact StepAll.nil
  ·intro D s wx hR hD; simp only [putA, Act.put, List.setIfInBounds_toArray, List.set_cons_zero, List.set_cons_succ]
   go_wp2_with fail
   go_meet
   exact ⟨s.2.2.1, s.1, s.2.1, rfl, hR.to_st [0, 1, 2, 3] (by decide) (by simp only [List.map, hD 4 (by decide), hD 6 (by decide), hD 7 (by decide)]; rfl)⟩
 case rest =>
  obtain ⟨T, A2, c2, rfl, S2⟩ := hcut; rw [HGL.out] at S2; have S3 := (S2.call (rDeeds_nil _ _ (Below.refl _ _))).pick [4, 0, 1, 2, 3] (by decide) rfl rfl; have M0 := Sn.of_st S3; have t2 : wc.cell? ⟨w.heap.size, 2, none⟩ = some (.slice A' n' c') := (M0.blk 1 rfl).cell 2; have HM0 := Lib.hid M0; clear S2 S3 M0; go_wp2
  go_loopw [15] (fun i wr => ∃ (k : Nat) (dv : Value), k ≤ n' ∧ i = .int .i64 k ∧ Sn w wr (fun q => match q with
   | 0 => some (rDeeds dv (t.deeds.take k))
   | 1 => some (rBlk w.heap.size 26 #[.int .i64 t.start, .slice A n c, .slice A' n' c'])
   | 2 => some (rBlk (w.heap.size + 1) 26 #[.int .i64 0, .slice none 0 0, .slice none 0 0])
   | 3 => some (rInts (.slice A2 n c2) t.goal)
   | 4 => some (rBlk T 26 #[.int .i64 t.start, .slice A2 n c2, dv])
   | _ => none)) (fun i _ => n' - (intOf i).toNat)
  case atStart =>
   refine ⟨0, .slice none 0 0, by omega, rfl, HM0.out.congr fun i => ?_⟩
   match i with
   | 0 | 1 | 2 | 3 | 4 => rfl
   | q + 5 => rfl
  case round =>
   obtain ⟨k, dv, hk, rfl, M⟩ := hrel
   by_cases hlt : k < n'
   ·obtain ⟨b, off, d, rfl, hb, hd, hda⟩ := hds.get hlt; obtain ⟨An, nn, cn, p0, p1, p2, p3, hneed, hnn, hw1, hw2, hw3⟩ := hda; have r0 : wr.cell? ⟨b, off + k * 4, none⟩ = some (.slice An nn cn) := (bcells M.below b _ hb).trans p0; have r1 : wr.cell? ⟨b, off + k * 4 + 1, none⟩ = some (.int .i64 d.on) := (bcells M.below b _ hb).trans p1; have r2 : wr.cell? ⟨b, off + k * 4 + 2, none⟩ = some (.int .i64 d.off) := (bcells M.below b _ hb).trans p2; have r3 : wr.cell? ⟨b, off + k * 4 + 3, none⟩ = some (.int .i64 d.flip) := (bcells M.below b _ hb).trans p3; have HTK := Lib.hid (take_succ' hd); have HTL : Hid ((t.deeds.take k).length = k) := Lib.hid (by rw [List.length_take, HDL.out]; omega); have hnl := hneed.len; have HNL := Lib.hid hnl; have HW : Hid (d.need.length ≤ 1048576 ∧ (Lit.int .i64 d.on).wf = true ∧ (Lit.int .i64 d.off).wf = true ∧ (Lit.int .i64 d.flip).wf = true) := Lib.hid ⟨by omega, hw1, hw2, hw3⟩; have M1 := M.add 5 rfl (St.new1 wr #[.slice An nn cn, .int .i64 d.on, .int .i64 d.off, .int .i64 d.flip] 144); have HN := Lib.hid (hneed.up M1.below); have HM1 := Lib.hid M1; have gd := M.below.size; clear p0 p1 p2 p3 hneed hd hnl M M1 hw1 hw2 hw3
    go_wp2_with fail
    refine (clone_any An nn cn d.need _ HN.out hnn).mono ?_; rintro e w2 ⟨v2, rfl, s2⟩; obtain ⟨A3, c3, hv, -⟩ := s2.rdI 0 rfl; rw [HNL.out] at hv; subst hv; have M2 := HM1.out.add 6 rfl s2; have M3 := M2.set 5 rfl 0 (.slice A3 nn c3); have M4 := M3.add 7 rfl (St.new1At (w2.setCell ⟨wr.heap.size, 0, none⟩ (.slice A3 nn c3)) w2.heap.size #[.slice A3 nn c3, .int .i64 d.on, .int .i64 d.off, .int .i64 d.flip] 144 (by simp [World.setCell])); have q5 : ∀ j, w2.cell? ⟨wr.heap.size, j, none⟩ = _ := (M2.blk 5 rfl).cell; have f5 := (M2.blk 5 rfl).frozen; have q4 : ∀ j, w2.cell? ⟨T, j, none⟩ = _ := (M2.blk 4 rfl).cell; have q4' : ∀ j, ((w2.setCell ⟨wr.heap.size, 0, none⟩ (.slice A3 nn c3)).cell? ⟨T, j, none⟩) = _ := (M3.blk 4 rfl).cell; obtain ⟨F, cells, Fs, ho, -⟩ := M4.deeds 0 rfl; have hrow := ho.row; have kb : Blk _ w2.heap.size 144 #[.slice A3 nn c3, .int .i64 d.on, .int .i64 d.off, .int .i64 d.flip] := M4.blk 7 rfl; rw [HTL.out] at hrow; have HROW := Lib.hid hrow; have HKB := Lib.hid kb; have HM4 := Lib.hid M4; clear ho hrow kb M2 M3 M4 s2 HM1 r0 r1 r2 r3
    go_wp2_with (at_builtin; refine wp_app elDeed rfl (.tmp 24) (.tmp 26) rfl 0 dv k cells rfl HROW.out _ _ 1 1 [.slice A3 nn c3, .int .i64 d.on, .int .i64 d.off, .int .i64 d.flip] rfl (RdRow.of_blk HKB.out 4 1 rfl (by unfold maxLen; omega)) (by simp [Value.oneCell']) (by omega) (by omega) (by omega) ?_; intro v3 w3 hown3 hg3 hat3; obtain ⟨A4, c4, hv⟩ := own_form hown3; subst hv; have M5 := HM4.out.push 0 6 (by decide) (v := dv) (nv := .slice A3 nn c3) (ds := t.deeds.take k) (d := d) rfl rfl HW.out.1 HW.out.2 (by rw [HTL.out]; omega) rfl (by rw [HTL.out]; exact HROW.out) (by rw [HTL.out]; exact hown3) hg3 hat3; have q6 : ∀ j, w3.cell? ⟨T, j, none⟩ = _ := (M5.blk 4 rfl).cell; have f6 := (M5.blk 4 rfl).frozen)
    have HM5 := Lib.hid (M5.set 4 rfl 2 (.slice A4 (k + 1) c4)); clear M5 hown3 hg3 hat3 q5 f5 q4 q4' HM4 HROW HKB; go_wp2
    go_roundw
    case rel =>
     refine ⟨k + 1, .slice A4 (k + 1) c4, by omega, by go_num, (((HM5.out.drop 5).drop 7).congr fun i => ?_)⟩
     match i with
     | 0 => rw [HTK.out]; rfl
     | 1 | 2 | 3 | 4 | 5 | 6 | 7 => rfl
     | q + 8 => simp
    case measure => simp [intOf]; omega
   ·have hkn : k = n' := by omega
    subst hkn; have HTK : Hid (t.deeds.take k = t.deeds) := Lib.hid (by rw [← HDL.out, List.take_length])
    have S5 := M.to_st (L := [rInts (.slice A2 n c2) t.goal, rDeeds dv t.deeds, rBlk T 26 #[.int .i64 t.start, .slice A2 n c2, dv], rBlk (w.heap.size + 1) 26 #[.int .i64 0, .slice none 0 0, .slice none 0 0]]) [3, 0, 4, 2] (by decide) (by
     simp only [List.map]; rw [HTK.out])
    obtain ⟨Ad, cd, hdv, -⟩ := S5.rdDs 1 rfl; rw [HDL.out] at hdv; subst hdv; have S6 := S5.task (s := t.start) (by rw [HGL.out]; exact hgs) hst; have a0 := S6.cells 1 rfl; have z0 := S6.cells 2 rfl; have fz := S6.free 2 rfl; have HS6 := Lib.hid S6; clear M S5 S6; go_wp2; refine bodyPost_ret (v := .agg #[.int .i64 t.start, .slice A2 n c2, .slice Ad k cd]) (by simp [results, Tryz.results111, go_sem, z0]) rfl ⟨.agg #[.int .i64 t.start, .slice A2 n c2, .slice Ad k cd], rfl, ?_⟩; exact (HS6.out.set3 2 rfl _ _ _).pick [0] (by decide) rfl rfl
end Go.Proofs.YtkmcengmglgdeaaGreatDoor
