/- RingsTask of the program and of the reference: each returns one plain task, for every argument. -/
import Derived.Test.YtkmcengmglgdeaaGreatDoorSApp
import Derived.Test.YtkmcengmglgdeaaGreatDoorSPure
namespace Go.Proofs.YtkmcengmglgdeaaGreatDoor
open Go.ChangeShapes Go.WideShapes Go.ChangeAt Go.RowKit

def needParts (k : Nat) : List (List Int) := if k = 0 then [] else [(k : Int) - 1] :: noneParts (k - 1)
def needI (k : Nat) : Nat → List Int
 | 0 => [(k : Int) - 1]
 | m + 1 => needI k m ++ [(m : Int), 7, 8]
def ringDeed (k : Nat) : DeedD := ⟨codeAll (needParts k), 0, 0, 2 ^ k⟩
theorem ringDeed_ok : ∀ k : Nat, k < 5 → (ringDeed k).need.length ≤ 1048576 ∧ (Lit.int .i64 (ringDeed k).on).wf = true ∧ (Lit.int .i64 (ringDeed k).off).wf = true ∧ (Lit.int .i64 (ringDeed k).flip).wf = true := by decide +kernel
def ringDeeds (m : Nat) : List DeedD := (List.range m).map ringDeed
theorem ringDeeds_succ (m : Nat) : ringDeeds (m + 1) = ringDeeds m ++ [ringDeed m] := by simp [ringDeeds, List.range_succ]
theorem ringDeeds_len (m : Nat) : (ringDeeds m).length = m := by simp [ringDeeds]
def ringsTask (r s : Int) : TaskD := if ringsIn r s = true then ⟨s, codeAll (noneParts r.toNat), ringDeeds r.toNat⟩ else ⟨0, [], []⟩

def partsJ (k j : Nat) : List (List Int) := (if k = 0 then [] else [[(k : Int) - 1]]) ++ noneParts j
theorem partsJ_succ (k j : Nat) : partsJ k (j + 1) = partsJ k j ++ [nonePart j] := by unfold partsJ; rw [noneParts_succ, List.append_assoc]
theorem partsJ_done (k : Nat) : partsJ k (k - 1) = needParts k := by
 unfold partsJ needParts
 by_cases h : k = 0
 ·subst h; rfl
 ·rw [if_neg h, if_neg h]; rfl
theorem partsJ_len (k j : Nat) : (partsJ k j).length ≤ j + 1 := by unfold partsJ; split <;> simp [noneParts_len] <;> omega
theorem partsJ_small (k j : Nat) : ∀ xs ∈ partsJ k j, xs.length ≤ 64 := by
 intro xs hx
 unfold partsJ noneParts at hx
 rcases List.mem_append.1 hx with hx | hx
 ·split at hx
  ·simp at hx
  ·simp at hx; subst hx; simp
 ·obtain ⟨i, -, rfl⟩ := List.mem_map.1 hx; simp [nonePart]
set_option maxRecDepth 100000 in
set_option maxHeartbeats 1000000 in
theorem ringsTask_spec (r s : Int) (w : World) (hs : (Lit.int .i64 s).wf = true) :
  Calls Tryz.prog 101 #[.int .i64 r, .int .i64 s] w fun e w' => (∃ v F, e = .returned v ∧ OwnT w' w.heap.size v (ringsTask r s) F ∧ F.Nodup) ∧ Below w.heap.size w w' := by
 have zero : ringsIn r s = false → ∀ wf, Only [w.heap.size] (w.alloc (Obj.cells #[.int .i64 0, .slice none 0 0, .slice none 0 0] 26)) wf → (∃ v F, Ending.returned (.agg #[.int .i64 0, .slice none 0 0, .slice none 0 0]) = .returned v ∧ OwnT wf w.heap.size v (ringsTask r s) F ∧ F.Nodup) ∧ Below w.heap.size w wf := fun hin wf hon =>
  ⟨⟨_, [], rfl, by unfold ringsTask; rw [if_neg (by simp [hin])]; exact OwnT.zero _ _, List.nodup_nil⟩, ((Below.refl _ _).alloc (Nat.le_refl _) _).trans (hon.below (by simp) (by simp))⟩
 have ZERO := Lib.hid zero
 clear zero
 by_cases hr1 : 1 ≤ r ∧ r ≤ 5
 ·obtain ⟨m, rfl⟩ : ∃ m : Nat, r = (m : Int) := ⟨r.toNat, by omega⟩
  have hw := wrap_pow m (by omega)
  have hw1 : 1 ≤ (2 : Int) ^ m := Int.pow_pos (by omega)
  have hw2 := pow_le_int m 5 (by omega)
  by_cases hs1 : 0 ≤ s ∧ s ≤ 2 ^ m - 1
  ·have hin : ringsIn m s = true := by unfold ringsIn; rw [Int.toNat_natCast]; exact decide_eq_true ⟨hr1.1, hr1.2, hs1.1, by omega⟩
   obtain ⟨-, -, hs0, hs2⟩ := ringsIn_bd m s hin
   have HT : Hid (ringsTask (m : Int) s = ⟨s, codeAll (noneParts m), ringDeeds m⟩) := Lib.hid (by unfold ringsTask; rw [if_pos hin, Int.toNat_natCast])
   have HB0 : Hid (Below w.heap.size w (w.alloc (Obj.cells #[.int .i64 0, .slice none 0 0, .slice none 0 0] 26))) := Lib.hid ((Below.refl _ _).alloc (Nat.le_refl _) _)
   clear hin ZERO
   go_enter Tryz.func101, Tryz.ntmps101
   go_wp2_with (go_at_call 125; refine (l1In_yes _ _ _ _ (by omega) (by omega)).mono ?_; rintro e w' ⟨rfl, rfl⟩)
   refine (l9None_any m _ (by omega)).mono ?_
   rintro e w1 ⟨⟨gv, Fg, rfl, hog, hgl⟩, hb1⟩
   simp only [World.size_alloc] at hog hb1
   have hs1' := hb1.size
   obtain ⟨Ag, cg, hgv⟩ := own_form hog.row
   subst hgv
   simp only [World.size_alloc] at hs1'
   have hres1 := blk1 hb1
   have HG := Lib.hid hog
   have HR := Lib.hid hres1
   have HB1 : Hid (Below w.heap.size w w1) := Lib.hid (HB0.out.trans (hb1.mono (by omega)))
   clear hog hb1 hres1
   go_wp2
   go_loopw [6] (fun i wr => ∃ (k : Nat) (dv : Value) (cells : List Value) (Fs : List (List Nat)), k ≤ m ∧ i = .int .i64 k ∧ Blk wr (w1.heap.size + 1) 26 #[.int .i64 s, .slice Ag (codeAll (noneParts m)).length cg, dv] ∧ PushDs wr w1.heap.size (w1.heap.size + 1) dv (ringDeeds k) cells Fs ∧ Below w1.heap.size w1 wr) (fun i _ => m - (intOf i).toNat)
   case atStart => exact ⟨0, _, [], [], by omega, rfl, (Blk.new (w1.alloc (.cells #[] 144)) 26 #[.int .i64 s, .slice Ag (codeAll (noneParts m)).length cg, .slice (some ⟨w1.heap.size, 0, none⟩) 0 0] |> (by simpa using ·)), (PushDs.lit w1 w1.heap.size (w1.heap.size + 1) (Nat.le_refl _) (by omega)).below ((Below.refl _ _).alloc (Nat.le_refl _) _), ((Below.refl _ _).alloc (Nat.le_refl _) _).alloc (by simp) _⟩
   case round =>
    obtain ⟨k, dv, cells, Fs, hk, rfl, hblk, hp, hbel⟩ := hrel
    have hsz := hbel.size
    have hTl := hblk.lt
    by_cases hlt : k < m
    ·obtain ⟨wo, hwo⟩ : ∃ wo, wo = wr := ⟨_, rfl⟩
     subst hwo
     by_cases h0 : 0 < k
     ·have HK1 := Lib.hid (OwnI.lit (wo.alloc (.cells #[] 23)) (wo.alloc (.cells #[] 23)).heap.size [(k : Int) - 1] (Nat.le_refl _) (by unfold maxLen; simp) (by
       intro x hx
       simp at hx
       subst hx
       exact wf_i64_mk (by omega)))
      have hol := OwnP.lit wo wo.heap.size (Nat.le_refl _)
      have hrow := hol.row
      go_wp2_with (at_builtin; refine wp_app elRow rfl _ _ rfl wo.heap.size _ 0 [] rfl (hrow.alloc _ |>.alloc _) _ _ 1 1 [.slice (some ⟨wo.heap.size + 1, 0, none⟩) 1 1] rfl (RdRow.newAt ((wo.alloc (.cells #[] 23)).alloc (.cells #[.int .i64 ((k : Int) - 1)] 3)) [.slice (some ⟨wo.heap.size + 1, 0, none⟩) 1 1] 23 1 1 (wo.heap.size + 1 + 1) (by simp) rfl (by unfold maxLen; omega)) (by simp [Value.oneCell']) (by omega) (by omega) (by simp; omega) ?_; intro v4 w4 hown4 hg4 hat4)
      have hk1 := HK1.out
      simp only [World.size_alloc] at hk1
      have hp4 := hol.app (xs := [(k : Int) - 1]) (F := [wo.heap.size + 1]) (by simp) ((((Below.refl _ _).alloc (Nat.le_refl _) _).alloc (by simp) _)) (by rw [World.size_alloc wo]; exact (hk1.below ((Below.refl _ _).alloc (Nat.le_refl _) (.cells #[.slice (some ⟨wo.heap.size + 1, 0, none⟩) 1 1] 23)))) rfl hown4 hg4 hat4
      have HPJ : Hid (OwnP w4 wo.heap.size v4 (partsJ k 0) _) := Lib.hid (by
       have : partsJ k 0 = [[(k : Int) - 1]] := by unfold partsJ; rw [if_neg (by omega)]; rfl
       rw [this]; exact hp4)
      have HBJ : Hid (Below wo.heap.size wo w4) := Lib.hid (((((Below.refl _ _).alloc (Nat.le_refl _) _).alloc (by simp) _).alloc (by simp; omega) _).grown hg4 (by simp; omega) (fun b hb => by have := (hrow.lt b hb).1; omega))
      clear hk1 hp4 hol hrow hown4 hg4 hat4 HK1
      go_wp2
      generalize decide (0 < k) = bb
      go_loopw [8, 7] (fun i v wr => ∃ (j : Nat) (vs : List Value), j ≤ k - 1 ∧ i = .int .i64 j ∧ OwnP wr wo.heap.size v (partsJ k j) vs ∧ Below wo.heap.size wo wr) (fun i _ _ => k - (intOf i).toNat)
      case atStart => exact ⟨0, _, by omega, rfl, HPJ.out, HBJ.out⟩
      case round =>
       obtain ⟨j, vs, hj, rfl, hpp, hbi⟩ := hrel
       have hszi := hbi.size
       have hpl := partsJ_len k j
       by_cases hjl : j + 1 < k
       ·have hrow := hpp.row
        have HO := Lib.hid (OwnI.lit wr wr.heap.size (nonePart j) (Nat.le_refl _) (by simp [nonePart]; unfold maxLen; omega) (by
         intro x hx
         simp [nonePart] at hx
         rcases hx with rfl | rfl
         ·exact wf_i64_mk (by omega)
         ·rfl))
        have HK := Lib.hid (partsJ_succ k j)
        go_wp2_with (at_builtin; refine wp_app elRow rfl _ _ rfl wo.heap.size _ _ vs rfl (hrow.alloc _ |>.alloc _) _ _ 1 1 [.slice (some ⟨wr.heap.size, 0, none⟩) 2 2] rfl (RdRow.newAt (wr.alloc (.cells #[.int .i64 j, .int .i64 7] 3)) [.slice (some ⟨wr.heap.size, 0, none⟩) 2 2] 23 1 1 (wr.heap.size + 1) (by simp) rfl (by unfold maxLen; omega)) (by simp [Value.oneCell']) (by omega) (by omega) (by simp; omega) ?_; intro v3 w3 hown3 hg3 hat3)
        have hp3 := hpp.app hszi (((Below.refl _ _).alloc (Nat.le_refl _) _).alloc (by simp) _) (HO.out.below ((Below.refl _ _).alloc (Nat.le_refl _) (.cells #[.slice (some ⟨wr.heap.size, 0, none⟩) 2 2] 23))) rfl hown3 hg3 hat3
        rw [← HK.out] at hp3
        have hb3 : Below wo.heap.size wo w3 := ((hbi.alloc hszi _).alloc (by simp; omega) _).grown hg3 (by simp; omega) (fun b hb => by have := (hrow.lt b hb).1; omega)
        clear hown3 hg3 hat3 hrow
        go_wp2
        go_roundw
        case rel => exact ⟨j + 1, _, by omega, by go_num, hp3, hb3⟩
        case measure => simp [intOf]; omega
       ·have hjk : j = k - 1 := by omega
        subst hjk
        obtain ⟨Ap, cp, hv, hrp⟩ := hpp.rd
        subst hv
        have hrp' : RdP wr.drew wr.heap.size Ap (partsJ k (k - 1)).length cp (partsJ k (k - 1)) := hrp.below (Below.refl _ _).drew
        have HPS := Lib.hid (partsJ_small k (k - 1))
        have HNP : Hid (codeAll (partsJ k (k - 1)) = (ringDeed k).need) := Lib.hid (by rw [partsJ_done]; rfl)
        have HDOK := Lib.hid (ringDeed_ok k (by omega))
        have HPOW : Hid (IntKind.i64.wrap (2 ^ k) = 2 ^ k) := Lib.hid ((IntWalk.i64_left _).trans (wrap_pow k (by omega)))
        have hblki := hblk.below hbi hTl
        have hpi := hp.below hbi
        have HROW : Hid (∀ wx, Below wr.heap.size wr wx → wx.ownsRow w1.heap.size 144 4 dv k cells) := Lib.hid (fun wx hx => by have := (hpi.below hx).own.row; rw [ringDeeds_len] at this; exact this)
        have hdT : wr.cell? ⟨w1.heap.size + 1, 2, none⟩ = some dv := hblki.cell 2
        have hfz : ∀ i, wr.frozen? ⟨w1.heap.size + 1, i, none⟩ = false := hblki.frozen
        clear hpp hrp
        go_wp2
        go_region_law (first
         | (go_simp; go_at_call 156; refine (l9All_any Ap _ cp _ _ hrp' HPS.out (by omega)).mono ?_; rintro e w2 ⟨⟨v2, F2, rfl, ho2, hl2⟩, hb2⟩; obtain ⟨A2, c2, hv2⟩ := own_form ho2.row; subst hv2; have hbx : Below wr.heap.size wr w2 := (Below.refl wr.heap.size wr).drew.trans hb2; have d2 : w2.cell? ⟨w1.heap.size + 1, 2, none⟩ = some dv := (bcells hbx _ _ hblki.lt).trans hdT; have d3 : ∀ o, (w2.alloc o).cell? ⟨w1.heap.size + 1, 2, none⟩ = some dv := fun o => (bcells (hbx.alloc hbx.size o) _ _ hblki.lt).trans hdT)
         | (refine step_app elDeed rfl (.tmp 52) (.tmp 58) rfl w1.heap.size dv k cells rfl ((HROW.out _ hbx).alloc _) _ _ 1 1 [.slice A2 _ c2, .int .i64 0, .int .i64 0, .int .i64 _] rfl (RdRow.new w2 [.slice A2 _ c2, .int .i64 0, .int .i64 0, .int .i64 _] 144 4 1 rfl (by unfold maxLen; omega)) (by omega) (by simp [Value.oneCell']) (by omega) (by omega) (by have := hbx.size; simp; omega) ?_; intro v3 w3 hown3 hg3 hat3; have hblk3 : Blk w3 (w1.heap.size + 1) 26 _ := (hblki.below (w' := w2.alloc (.cells #[.slice A2 _ c2, .int .i64 0, .int .i64 0, .int .i64 _] 144)) (hbx.alloc hbx.size _) hblki.lt).grown hg3 (Ne.symm hp.ne); obtain ⟨A3, c3, hv3⟩ := own_form hown3; subst hv3; have f3 : ∀ i, w3.frozen? ⟨w1.heap.size + 1, i, none⟩ = false := hblk3.frozen; have e3 : w3.cell? ⟨w1.heap.size + 1, 2, none⟩ = some dv := hblk3.cell 2))
        all_goals (
         have hbo : Below wo.heap.size wo w2 := hbi.trans (hbx.mono hszi)
         have hszo := hbo.size
         have hp3 := hp.app (d := ringDeed k) hsz hTl (hbo.alloc hszo _) ((by rw [← HNP.out]; exact ((ho2.mono hszi).below ((Below.refl _ _).alloc (Nat.le_refl _) _)))) HDOK.out.1 HDOK.out.2 (by rw [ringDeeds_len]; omega) (by rw [ringDeeds_len]) (by rw [HPOW.out] at hown3; exact hown3) hg3 hat3
         rw [← ringDeeds_succ] at hp3
         have hbF : Below w1.heap.size w1 w3 := ((hbel.trans (hbo.mono hsz)).alloc (Nat.le_trans hsz hszo) _).grown hg3 (by simp; omega) (fun b hb => (hp.own.row.lt b hb).1)
         have hpF := hp3.only ((Only.refl [w1.heap.size + 1] w3).set (p := ⟨w1.heap.size + 1, 2, none⟩) (by simp) (.slice A3 (k + 1) c3))
         have hbFF := hbF.setCell (p := ⟨w1.heap.size + 1, 2, none⟩) (Nat.le_succ _) (.slice A3 (k + 1) c3)
         have hblkF := hblk3.set_ 2 (.slice A3 (k + 1) c3)
         clear hp3 hbF hblk3 f3 e3 hown3 hg3 hat3 hdT d2 d3 hfz hpi hblki
         go_wp2
         go_roundw
         case rel => exact ⟨k + 1, _, _, _, by omega, by go_num, hblkF, hpF, hbFF⟩
         case measure => simp [intOf]; omega)
     ·have HPJ : Hid (OwnP (wo.alloc (.cells #[] 23)) wo.heap.size (.slice (some ⟨wo.heap.size, 0, none⟩) 0 0) (partsJ k 0) []) := Lib.hid (by
       have : partsJ k 0 = [] := by unfold partsJ; rw [if_pos (by omega)]; rfl
       rw [this]; exact OwnP.lit wo _ (Nat.le_refl _))
      have HBJ : Hid (Below wo.heap.size wo (wo.alloc (.cells #[] 23))) := Lib.hid ((Below.refl _ _).alloc (Nat.le_refl _) _)
      go_wp2
      generalize decide (0 < k) = bb
      go_loopw [8, 7] (fun i v wr => ∃ (j : Nat) (vs : List Value), j ≤ k - 1 ∧ i = .int .i64 j ∧ OwnP wr wo.heap.size v (partsJ k j) vs ∧ Below wo.heap.size wo wr) (fun i _ _ => k - (intOf i).toNat)
      case atStart => exact ⟨0, _, by omega, rfl, HPJ.out, HBJ.out⟩
      case round =>
       obtain ⟨j, vs, hj, rfl, hpp, hbi⟩ := hrel
       have hszi := hbi.size
       have hpl := partsJ_len k j
       by_cases hjl : j + 1 < k
       ·omega
       ·have hjk : j = k - 1 := by omega
        subst hjk
        obtain ⟨Ap, cp, hv, hrp⟩ := hpp.rd
        subst hv
        have hrp' : RdP wr.drew wr.heap.size Ap (partsJ k (k - 1)).length cp (partsJ k (k - 1)) := hrp.below (Below.refl _ _).drew
        have HPS := Lib.hid (partsJ_small k (k - 1))
        have HNP : Hid (codeAll (partsJ k (k - 1)) = (ringDeed k).need) := Lib.hid (by rw [partsJ_done]; rfl)
        have HDOK := Lib.hid (ringDeed_ok k (by omega))
        have HPOW : Hid (IntKind.i64.wrap (2 ^ k) = 2 ^ k) := Lib.hid ((IntWalk.i64_left _).trans (wrap_pow k (by omega)))
        have hblki := hblk.below hbi hTl
        have hpi := hp.below hbi
        have HROW : Hid (∀ wx, Below wr.heap.size wr wx → wx.ownsRow w1.heap.size 144 4 dv k cells) := Lib.hid (fun wx hx => by have := (hpi.below hx).own.row; rw [ringDeeds_len] at this; exact this)
        have hdT : wr.cell? ⟨w1.heap.size + 1, 2, none⟩ = some dv := hblki.cell 2
        have hfz : ∀ i, wr.frozen? ⟨w1.heap.size + 1, i, none⟩ = false := hblki.frozen
        clear hpp hrp
        go_wp2
        go_region_law (first
         | (go_simp; go_at_call 156; refine (l9All_any Ap _ cp _ _ hrp' HPS.out (by omega)).mono ?_; rintro e w2 ⟨⟨v2, F2, rfl, ho2, hl2⟩, hb2⟩; obtain ⟨A2, c2, hv2⟩ := own_form ho2.row; subst hv2; have hbx : Below wr.heap.size wr w2 := (Below.refl wr.heap.size wr).drew.trans hb2; have d2 : w2.cell? ⟨w1.heap.size + 1, 2, none⟩ = some dv := (bcells hbx _ _ hblki.lt).trans hdT; have d3 : ∀ o, (w2.alloc o).cell? ⟨w1.heap.size + 1, 2, none⟩ = some dv := fun o => (bcells (hbx.alloc hbx.size o) _ _ hblki.lt).trans hdT)
         | (refine step_app elDeed rfl (.tmp 52) (.tmp 58) rfl w1.heap.size dv k cells rfl ((HROW.out _ hbx).alloc _) _ _ 1 1 [.slice A2 _ c2, .int .i64 0, .int .i64 0, .int .i64 _] rfl (RdRow.new w2 [.slice A2 _ c2, .int .i64 0, .int .i64 0, .int .i64 _] 144 4 1 rfl (by unfold maxLen; omega)) (by omega) (by simp [Value.oneCell']) (by omega) (by omega) (by have := hbx.size; simp; omega) ?_; intro v3 w3 hown3 hg3 hat3; have hblk3 : Blk w3 (w1.heap.size + 1) 26 _ := (hblki.below (w' := w2.alloc (.cells #[.slice A2 _ c2, .int .i64 0, .int .i64 0, .int .i64 _] 144)) (hbx.alloc hbx.size _) hblki.lt).grown hg3 (Ne.symm hp.ne); obtain ⟨A3, c3, hv3⟩ := own_form hown3; subst hv3; have f3 : ∀ i, w3.frozen? ⟨w1.heap.size + 1, i, none⟩ = false := hblk3.frozen; have e3 : w3.cell? ⟨w1.heap.size + 1, 2, none⟩ = some dv := hblk3.cell 2))
        all_goals (
         have hbo : Below wo.heap.size wo w2 := hbi.trans (hbx.mono hszi)
         have hszo := hbo.size
         have hp3 := hp.app (d := ringDeed k) hsz hTl (hbo.alloc hszo _) ((by rw [← HNP.out]; exact ((ho2.mono hszi).below ((Below.refl _ _).alloc (Nat.le_refl _) _)))) HDOK.out.1 HDOK.out.2 (by rw [ringDeeds_len]; omega) (by rw [ringDeeds_len]) (by rw [HPOW.out] at hown3; exact hown3) hg3 hat3
         rw [← ringDeeds_succ] at hp3
         have hbF : Below w1.heap.size w1 w3 := ((hbel.trans (hbo.mono hsz)).alloc (Nat.le_trans hsz hszo) _).grown hg3 (by simp; omega) (fun b hb => (hp.own.row.lt b hb).1)
         have hpF := hp3.only ((Only.refl [w1.heap.size + 1] w3).set (p := ⟨w1.heap.size + 1, 2, none⟩) (by simp) (.slice A3 (k + 1) c3))
         have hbFF := hbF.setCell (p := ⟨w1.heap.size + 1, 2, none⟩) (Nat.le_succ _) (.slice A3 (k + 1) c3)
         have hblkF := hblk3.set_ 2 (.slice A3 (k + 1) c3)
         clear hp3 hbF hblk3 f3 e3 hown3 hg3 hat3 hdT d2 d3 hfz hpi hblki
         go_wp2
         go_roundw
         case rel => exact ⟨k + 1, _, _, _, by omega, by go_num, hblkF, hpF, hbFF⟩
         case measure => simp [intOf]; omega)
    ·have hkm : k = m := by omega
     subst hkm
     have hresr := HR.out.below hbel (by omega)
     have a0 : wr.cell? ⟨w1.heap.size + 1, 0, none⟩ = some (.int .i64 s) := hblk.cell 0
     have a1 : wr.cell? ⟨w1.heap.size + 1, 1, none⟩ = some (.slice Ag (codeAll (noneParts k)).length cg) := hblk.cell 1
     have a2 : wr.cell? ⟨w1.heap.size + 1, 2, none⟩ = some dv := hblk.cell 2
     have r0 : wr.cell? ⟨w.heap.size, 0, none⟩ = some (.int .i64 0) := hresr.cell 0
     have r1 : wr.cell? ⟨w.heap.size, 1, none⟩ = some (.slice none 0 0) := hresr.cell 1
     have r2 : wr.cell? ⟨w.heap.size, 2, none⟩ = some (.slice none 0 0) := hresr.cell 2
     have fr : ∀ i, wr.frozen? ⟨w.heap.size, i, none⟩ = false := hresr.frozen
     obtain ⟨Ad, cd, hdv⟩ := own_form hp.own.row
     rw [ringDeeds_len] at hdv
     subst hdv
     have hot := OwnT.of_push (lo := w.heap.size) (t := ⟨s, codeAll (noneParts k), ringDeeds k⟩) (HG.out.below hbel) (by simp only; omega) hp hs (by omega) (by omega) (fun b hb => (HG.out.lt b hb).2)
     have key : ∀ wf, Only [w.heap.size] wr wf → (∃ v F, Ending.returned (.agg #[.int .i64 s, .slice Ag (codeAll (noneParts k)).length cg, .slice Ad k cd]) = .returned v ∧ OwnT wf w.heap.size v (ringsTask k s) F ∧ F.Nodup) ∧ Below w.heap.size w wf := fun wf hon =>
      ⟨⟨_, _, rfl, by rw [HT.out]; exact hot.1.keep fun b hb => hon.block b (hot.1.lt b hb).2 (by
        simp only [List.mem_singleton]
        rintro rfl
        rcases List.mem_append.1 hb with hx | hx
        ·have := (HG.out.lt _ hx).1; omega
        ·have := (hp.own.lt _ hx).1; omega), hot.2⟩, (HB1.out.trans (hbel.mono (by omega))).trans (hon.below (by simp) (by omega))⟩
     have KEY := Lib.hid key
     clear key hot hresr hp hblk
     go_wp2
     refine bodyPost_ret (v := .agg #[.int .i64 s, .slice Ag (codeAll (noneParts k)).length cg, .slice Ad k cd]) (by simp [results, Tryz.results101, go_sem, a0, a1, a2, r0, r1, r2]) rfl (KEY.out _ ?_)
     repeat' (first | with_reducible exact Only.refl _ _ | with_reducible refine Only.set ?_ ?_ _)
     all_goals simp
  ·have hin : ringsIn m s = false := by unfold ringsIn; rw [Int.toNat_natCast]; exact decide_eq_false (by omega)
   have KEY := Lib.hid (ZERO.out hin)
   clear ZERO hin
   go_enter Tryz.func101, Tryz.ntmps101
   go_wp2_with (first | (go_at_call 125; refine (l1In_yes _ _ _ _ (by omega) (by omega)).mono ?_; rintro e w' ⟨rfl, rfl⟩) | (go_at_call 125; refine (l1In_no _ _ _ _ (by omega)).mono ?_; rintro e w' ⟨rfl, rfl⟩))
   refine bodyPost_ret (v := .agg #[.int .i64 0, .slice none 0 0, .slice none 0 0]) (by simp [results, Tryz.results101, go_sem]) rfl (KEY.out _ ?_)
   repeat' (first | with_reducible exact Only.refl _ _ | with_reducible refine Only.set ?_ ?_ _)
   all_goals simp
 ·have hin : ringsIn r s = false := by unfold ringsIn; exact decide_eq_false (by omega)
  have KEY := Lib.hid (ZERO.out hin)
  clear ZERO hin
  go_enter Tryz.func101, Tryz.ntmps101
  go_wp2_with (go_at_call 125; refine (l1In_no _ _ _ _ (by omega)).mono ?_; rintro e w' ⟨rfl, rfl⟩)
  refine bodyPost_ret (v := .agg #[.int .i64 0, .slice none 0 0, .slice none 0 0]) (by simp [results, Tryz.results101, go_sem]) rfl (KEY.out _ ?_)
  repeat' (first | with_reducible exact Only.refl _ _ | with_reducible refine Only.set ?_ ?_ _)
  all_goals simp
end Go.Proofs.YtkmcengmglgdeaaGreatDoor
