
import Derived.Test.YtkmcengmglgdeaaGreatDoorSBack
namespace Go.Proofs.YtkmcengmglgdeaaGreatDoor
set_option linter.unusedVariables false
set_option linter.unusedSimpArgs false
set_option maxRecDepth 100000
set_option maxHeartbeats 8000000
open Go.ChangeShapes Go.WideShapes Go.ChangeAt Go.RowKit
theorem St.rdRow' {w W : World} {L : List HRes} (h : St w W L) (i : Nat) {e : TypeId} {size n c : Nat} {A : Option Addr} {cells : List Value} (hi : L[i]? = some (rRow e size (.slice A n c) n cells)) : RdRow W W.heap.size size A n c cells := by
 obtain ⟨A', c', hv, hr⟩ := h.rdRow i hi; simp only [Value.slice.injEq, true_and] at hv; obtain ⟨rfl, rfl⟩ := hv; exact hr
theorem Sn.cellI {w W : World} {M : Nat → Option HRes} (h : Sn w W M) (i : Nat) {g n c : Nat} {xs : List Int} (hi : M i = some (rInts (.slice (some ⟨g, 0, none⟩) n c) xs)) (hn : xs.length = n) (k : Nat) (x : Int) (hx : xs[k]? = some x) : W.cell? ⟨g, k, none⟩ = some (.int .i64 x) ∧ W.frozen? ⟨g, k, none⟩ = false :=
 St.cellI (h.to_st [i] (by simp) (L := [rInts (.slice (some ⟨g, 0, none⟩) n c) xs]) (by simp only [List.map, hi])) 0 rfl hn k x hx
theorem planFor_no (t : TaskD) (h : taskOk t = false) : planFor t = none := if_neg (by rw [h]; simp)
theorem planFor_yes (t : TaskD) (h : taskOk t = true) (s : Nat) (hs : t.start = (s : Int)) : planFor t = if stpV t.deeds (evalCode t.goal) s < 0 then none else some (walkP t.deeds (evalCode t.goal) (stpV t.deeds (evalCode t.goal) s).toNat s) := by
 unfold planFor planOf
 rw [if_pos h, hs, Int.toNat_natCast]
theorem pick_drop {f : Nat → Bool} {s : Nat} {ds : List DeedD} {j : Nat} {d : DeedD} (hd : ds[j]? = some d) : pick f s (ds.drop j) j = match deedDo d s with
  | some s' => if f s' then some (j, s') else pick f s (ds.drop (j + 1)) (j + 1)
  | none => pick f s (ds.drop (j + 1)) (j + 1) := by
 obtain ⟨h1, h2⟩ := List.getElem?_eq_some_iff.1 hd; rw [List.drop_eq_getElem_cons h1, h2]
 rfl
theorem pick_none {f : Nat → Bool} {s : Nat} {ds : List DeedD} {j : Nat} {d : DeedD} (hd : ds[j]? = some d) (h : deedDo d s = none) : pick f s (ds.drop (j + 1)) (j + 1) = pick f s (ds.drop j) j := by rw [pick_drop hd, h]
theorem pick_not {f : Nat → Bool} {s q : Nat} {ds : List DeedD} {j : Nat} {d : DeedD} (hd : ds[j]? = some d) (h : deedDo d s = some q) (hf : f q = false) : pick f s (ds.drop (j + 1)) (j + 1) = pick f s (ds.drop j) j := by rw [pick_drop hd, h]; simp [hf]
theorem pick_yes {f : Nat → Bool} {s q : Nat} {ds : List DeedD} {j : Nat} {d : DeedD} (hd : ds[j]? = some d) (h : deedDo d s = some q) (hf : f q = true) : pick f s (ds.drop j) j = some (j, q) := by rw [pick_drop hd, h]; simp [hf]
def near (ds : List DeedD) (p : Nat → Bool) (m : Nat) : Nat → Bool := fun s' => stpV ds p s' == (m : Int)
theorem walk_step {ds : List DeedD} {p : Nat → Bool} {m s j q : Nat} {pre plan : List Int} (h : pre ++ walkP ds p (m + 1) s = plan) (hp : pick (near ds p m) s ds 0 = some (j, q)) : (pre ++ [(j : Int)]) ++ walkP ds p m q = plan := by
 rw [← h, List.append_assoc]
 congr 1
 show _ = walkP ds p (m + 1) s
 unfold near at hp
 simp only [walkP, hp]
 rfl
theorem pick_ends {ds : List DeedD} {p : Nat → Bool} {m s : Nat} (hd : ∀ d ∈ ds, deedOk d = true) (hs : s < 32) (h : stpV ds p s = ((m + 1 : Nat) : Int)) (hn : pick (near ds p m) s ds 0 = none) : False := by
 obtain ⟨d, hm, s', e, _, h1⟩ := stpV_next hd hs h; obtain ⟨j, s'', h2, -⟩ := pick_some (f := near ds p m) (s := s) (ds := ds) (k := 0) ⟨d, hm, s', e, by unfold near; simpa using h1⟩; rw [hn] at h2; cases h2
theorem stpV_bd (ds : List DeedD) (p : Nat → Bool) (s : Nat) : -1 ≤ stpV ds p s ∧ stpV ds p s ≤ 32 := stpN_le (ds := ds) (S := p) (n := 32) (s := s)
theorem toNat_nat' {x : Int} {m : Nat} (h : x = (m : Int)) : x.toNat = m := by rw [h, Int.toNat_natCast]
theorem planFor_impl (v : Value) (t : TaskD) (w : World) (h : RdT w w.heap.size v t) :
  Calls Tryz.prog 31 #[v] w (Gives w (fun v => .tuple #[v, .bool (planFor t).isSome]) fun v => [rInts v ((planFor t).getD [])]) := by
 have h' := h; obtain ⟨G, gn, gc, G', n', c', rfl, hg, hgs, hds, hst⟩ := h; have S0 := (St.refl w).alloc #[.int .i64 t.start, .slice G gn gc, .slice G' n' c'] 26; have HT := Lib.hid h'; have HG := Lib.hid hg; have HS0 := Lib.hid S0; have HDL := Lib.hid hds.len; clear S0 h' hg hds; obtain ⟨bo, hok⟩ : ∃ b, taskOk t = b := ⟨_, rfl⟩; have HOK := Lib.hid hok; clear hok
 cases bo with
 | false =>
  have HPN := Lib.hid (planFor_no t HOK.out); go_enter Tryz.func31, Tryz.ntmps31
  go_wp2_with fail
  refine (taskValid_impl _ t _ (HT.out.up HS0.out.below)).mono ?_; rw [HOK.out]; rintro e w1 ⟨rfl, hb1⟩; have HB := Lib.hid (HS0.out.quiet hb1).below; clear hb1; go_wp2; refine bodyPost_ret (v := .tuple #[.slice none 0 0, .bool false]) (by simp [results, Tryz.results31, go_sem]) rfl ⟨.slice none 0 0, by rw [HPN.out]; rfl, ?_⟩; rw [HPN.out]; exact rInts_nil w _ HB.out
 | true =>
  obtain ⟨hs0, hgok, hn6, hdok⟩ := taskOk_parts t HOK.out; obtain ⟨s0, hst0⟩ := Int.eq_ofNat_of_zero_le hs0.1; have HDOK := Lib.hid hdok; have HGOK := Lib.hid hgok; have hs32 : s0 < 32 := by omega
  have HPY := Bx.mk (planFor_yes t HOK.out s0 hst0); obtain ⟨plan, hplan⟩ : ∃ plan, (planFor t).getD [] = plan := ⟨_, rfl⟩; have HPL := Bx.mk hplan; rw [hplan]; obtain ⟨N, hN⟩ : ∃ N, truthN t.goal = N := ⟨_, rfl⟩; have HN := Bx.mk hN; have HTR := Bx.mk (codeTruth_yes t.goal HGOK.out); have HN6 : Hid (n' ≤ 6) := Lib.hid (by rw [← HDL.out]; exact hn6); have hn6' : n' ≤ 6 := HN6.out; clear hdok hgok hplan hN hs0 hn6; rw [hst0] at HS0 ⊢
  go_enter Tryz.func31, Tryz.ntmps31
  go_wp2_with fail
  refine (taskValid_impl _ t _ (by rw [← hst0]; rw [← hst0] at HS0; exact HT.out.up HS0.out.below)).mono ?_; rw [HOK.out]; rintro e w1 ⟨rfl, hb1⟩; have HS1 := Lib.hid (HS0.out.quiet hb1); have q1 := HS1.out.cells 0 rfl; clear hb1
  go_wp2_with fail
  refine (behindAll_any _ t _ (by have := HT.out.up HS1.out.below; rw [hst0] at this; exact this) HOK.out).mono ?_; rintro e w2 ⟨rv, rfl, s2⟩; have HS2 : Hid (St w w2 [rBlk w.heap.size 26 #[.int .i64 s0, .slice G gn gc, .slice G' n' c'], rBeh rv t.deeds]) := Lib.hid (HS1.out.call s2); clear q1 s2; obtain ⟨RA, RC, hrv, -⟩ := HS2.out.rdRow 1 rfl; rw [HDL.out] at hrv; subst hrv; have q2 := HS2.out.cells 0 rfl
  go_wp2_with fail
  refine (codeTruth_impl G gn gc t.goal _ (HG.out.up HS2.out.below)).mono ?_; rw [HTR.out, HN.out]; rintro e w3 ⟨rfl, hb3⟩; have HS3 := Lib.hid (HS2.out.quiet hb3); clear q2 hb3; have HRB : Hid (∀ W, St w W [rBlk w.heap.size 26 #[.int .i64 s0, .slice G gn gc, .slice G' n' c'], rBeh (.slice RA n' RC) t.deeds] → RdRow W W.heap.size 32 RA n' RC (ints (behL t.deeds))) := Lib.hid fun W h => h.rdRow' (n := n') 1 (by rw [← HDL.out]; rfl)
  go_wp2_with fail
  refine (stepsBack_any RA n' RC t.deeds (evalCode t.goal) N _ (HRB.out _ HS3.out) HDL.out HDOK.out hn6' HN.out.symm).mono ?_; rintro e w4 ⟨sv, rfl, s4⟩; have HS4 : Hid (St w w4 [rBlk w.heap.size 26 #[.int .i64 s0, .slice G gn gc, .slice G' n' c'], rBeh (.slice RA n' RC) t.deeds, rInts sv (stepsL t.deeds (evalCode t.goal))]) := Lib.hid (HS3.out.call s4); clear s4; obtain ⟨g, sc, hsv⟩ := HS4.out.formI 2 rfl (stepsL_len _ _) (by omega); subst hsv; have q4 := HS4.out.cells 0 rfl; obtain ⟨ds, hds⟩ : ∃ ds, t.deeds = ds := ⟨_, rfl⟩; obtain ⟨p, hp⟩ : ∃ p, evalCode t.goal = p := ⟨_, rfl⟩; rw [hds, hp] at HS4 HPY; rw [hds] at HDL HDOK; have HRR : Hid (∀ W L, St w W (rBlk w.heap.size 26 #[.int .i64 s0, .slice G gn gc, .slice G' n' c'] :: rBeh (.slice RA n' RC) ds :: L) → RdRow W W.heap.size 32 RA n' RC (ints (behL ds))) := Lib.hid fun W L h => h.rdRow' (n := n') 1 (by rw [← HDL.out]; rfl)
  obtain ⟨hc0, -⟩ := HS4.out.cellI 2 rfl (stepsL_len _ _) s0 _ (stepsL_at ds p s0 hs32); have hbd := stpV_bd ds p s0; clear HS3 HS2 HS1 HS0 HT HG HTR HN hds hp HRB
  by_cases hneg : stpV ds p s0 < 0
  ·have HPN : Bx (planFor t = none) := Bx.mk (by rw [HPY.out, if_pos hneg]); obtain ⟨u, hu⟩ : ∃ u, stpV ds p s0 = u := ⟨_, rfl⟩; rw [hu] at hneg hc0; have HPL2 : Hid (([] : List Int) = plan) := Lib.hid (by rw [← HPL.out, HPN.out]; rfl); clear hu hbd; go_wp2; refine bodyPost_ret (v := .tuple #[.slice none 0 0, .bool false]) (by simp [results, Tryz.results31, go_sem]) rfl ⟨.slice none 0 0, by rw [HPN.out]; rfl, ?_⟩; rw [← HPL2.out]; exact rInts_nil w _ HS4.out.below
  ·obtain ⟨m0, hm0⟩ := Int.eq_ofNat_of_zero_le (show 0 ≤ stpV ds p s0 by omega); have HPS : Bx (planFor t = some (walkP ds p m0 s0)) := Bx.mk (by rw [HPY.out, if_neg hneg, hm0, Int.toNat_natCast]); have HW0 : Bx (([] : List Int) ++ walkP ds p m0 s0 = plan) := Bx.mk (by rw [← HPL.out, HPS.out]; rfl); have HM0 := Bx.mk hm0
   have hm31 : m0 ≤ 31 := by
    have := stpV_le (S := p) HDOK.out hs32
    omega
   rw [hm0] at hc0; have HS5 : Hid (St w w4 [rBlk w.heap.size 26 #[.int .i64 s0, .slice G gn gc, .slice G' n' c'], rBeh (.slice RA n' RC) ds, rInts (.slice (some ⟨g, 0, none⟩) 32 sc) (stepsL ds p), rInts (.slice none 0 0) []]) := Lib.hid (HS4.out.call (rInts_nil w4 w4 (Below.refl _ _))); clear hneg hm0 hbd HPY HS4; go_wp2
   go_loopw [6, 7] (fun sv pv wr => ∃ (s m : Nat) (pre : List Int) (x7 : Value), x7 = pv ∧ sv = .int .i64 s ∧ s < 32 ∧ Bx (stpV ds p s = (m : Int)) ∧ pre.length + m ≤ 31 ∧ Bx (pre ++ walkP ds p m s = plan) ∧ St w wr [rBlk w.heap.size 26 #[.int .i64 s0, .slice G gn gc, .slice G' n' c'], rBeh (.slice RA n' RC) ds, rInts (.slice (some ⟨g, 0, none⟩) 32 sc) (stepsL ds p), rInts x7 pre]) (fun sv _ _ => (stpV ds p (intOf sv).toNat).toNat)
   case atStart => exact ⟨s0, m0, [], _, rfl, rfl, hs32, HM0, by simpa using hm31, HW0, HS5.out⟩
   case round =>
    clear HM0 HW0 HS5 hc0 hm31 q4; obtain ⟨s, m, pre, x7, rfl, rfl, hs, HV, hml, HW, M⟩ := hrel; have HM := Lib.hid M; obtain ⟨hcs, -⟩ := M.cellI 2 rfl (stepsL_len _ _) s _ (stepsL_at ds p s hs); rw [HV.out] at hcs; clear M
    rcases Nat.eq_zero_or_pos m with hm | hm
    ·subst hm; have HE : Hid (pre = plan) := Lib.hid (by have := HW.out; simpa [walkP] using this); go_wp2; refine bodyPost_ret (v := .tuple #[x7, .bool true]) (by simp [results, Tryz.results31, go_sem]) rfl ⟨x7, by rw [HPS.out]; rfl, ?_⟩; rw [← HE.out]; exact HM.out.pick [3] (by decide) rfl rfl
    ·obtain ⟨r, rfl⟩ : ∃ r, m = r + 1 := ⟨m - 1, by omega⟩; have HMEAS : Hid ((stpV ds p s).toNat = r + 1) := Lib.hid (toNat_nat' HV.out); go_wp2
     go_loopw [34, 6, 7] (fun i sv pv wr => ∃ j : Nat, .int .i64 s = sv ∧ x7 = pv ∧ j ≤ n' ∧ i = .int .i64 j ∧ Bx (pick (near ds p r) s (ds.drop j) j = pick (near ds p r) s ds 0) ∧ St w wr [rBlk w.heap.size 26 #[.int .i64 s0, .slice G gn gc, .slice G' n' c'], rBeh (.slice RA n' RC) ds, rInts (.slice (some ⟨g, 0, none⟩) 32 sc) (stepsL ds p), rInts x7 pre]) (fun i _ _ _ => n' - (intOf i).toNat)
     case atStart => exact ⟨0, rfl, rfl, by omega, rfl, Bx.mk (by rw [List.drop_zero]), HM.out⟩
     case round =>
      clear HM hcs; obtain ⟨j, rfl, rfl, hj, rfl, HP, M⟩ := hrel; have HM := Lib.hid M; clear M
      by_cases hlt : j < n'
      ·obtain ⟨b, off, d, hRA, hb, hdk, hrow⟩ := beh_row (HRR.out _ _ HM.out) HDL.out hlt; subst hRA; have HDK := Lib.hid hdk; have HLD := Lib.hid hrow; have HDO := Lib.hid (HDOK.out d (List.mem_of_getElem? hdk)); have HLEN := Lib.hid (rowOf_len d); have hix := rowOf_at d s hs; obtain ⟨R, hR⟩ : ∃ R, rowOf d = R := ⟨_, rfl⟩; obtain ⟨o, ho⟩ : ∃ o, deedDo d s = o := ⟨_, rfl⟩; have HOC : Hid (∀ v ∈ R, v.oneCell' = true) := Lib.hid (by rw [← hR]; simp [rowOf, Value.oneCell']); have HO := Lib.hid ho; rw [hR] at HLD HLEN hix; rw [ho] at hix; have HRS := Lib.hid hix; have HM5 : Hid (St w (wr.alloc (.cells R.toArray 108)) [rBlk w.heap.size 26 #[.int .i64 s0, .slice G gn gc, .slice G' n' c'], rBeh (.slice (some ⟨b, off, none⟩) n' RC) ds, rInts (.slice (some ⟨g, 0, none⟩) 32 sc) (stepsL ds p), rInts x7 pre, rBlk wr.heap.size 108 R.toArray]) := Lib.hid (HM.out.alloc R.toArray 108); clear hrow hdk hR ho hix; have HSI : Hid ((s : Int) < 32) := Lib.hid (by omega); have HSQ : Hid ((stepsL ds p)[s]? = some ((r : Int) + 1)) := Lib.hid (by rw [stepsL_at ds p s hs, HV.out]; rfl)
       cases o with
       | none =>
        have HPN2 := Bx.mk ((pick_none (f := near ds p r) HDK.out HO.out).trans HP.out); have HIX : Hid (R.toArray[s]? = some (.int .i64 (-1))) := Lib.hid (by simpa [opt] using HRS.out)
        go_upto_region 13 with (first
         | (refine wpList_load_arr 108 (.tmp 37) rfl rfl 3 32 undBeh b (off + j * 32) R rfl (by rw [HLEN.out]; exact infoBeh) HLD.out ?_)
         | (refine wpList_store_arr 108 (.tmp 9) (.tmp 38) rfl rfl _ R rfl rfl (by rw [HLEN.out]; exact infoBeh) (by rw [HLEN.out]; rfl) HOC.out ?_))
        refine wpr (σ := Unit)
         (fun s0' i => match i with
          | 0 => .int .i64 (s : Int)
          | 1 => .pointer (some ⟨wr.heap.size, s, none⟩)
          | 2 => .int .i64 (-1)
          | 3 => .bool false
          | 4 => .bool false
          | 17 => .bool false
          | _ => undef)
         (fun D s0' wx => Sn w wx fun i => match i with
          | 0 => some (rBlk w.heap.size 26 #[.int .i64 s0, .slice G gn gc, .slice G' n' c'])
          | 1 => some (rBeh (.slice (some ⟨b, off, none⟩) n' RC) ds)
          | 2 => some (rInts (.slice (some ⟨g, 0, none⟩) 32 sc) (stepsL ds p))
          | 3 => some (rInts x7 pre)
          | 4 => some (rBlk wr.heap.size 108 R.toArray)
          | _ => none)
         () ?_ ?_ ?_
        ·intro D hD; refine ((Sn.of_st HM5.out).quiet ((Below.refl _ _).drew)).congr fun i => ?_
         match i with
         | 0 | 1 | 2 | 3 | 4 => rfl
         | i + 5 => rfl
        ·refine Cs (fun D s0' wx hR _ hd _ _ hs K hK => ?_) ?_
         ·have e6 := hs.o 6 (.int .i64 (s : Int)); clear hs; go_simp; exact hK s0' wx (fun _ _ => rfl) hR
         refine Cs (fun D s0' wx hR _ hd _ _ hs K hK => ?_) ?_
         ·have e9 := hs.o 9 (.pointer (some ⟨wr.heap.size, 0, none⟩)); have e39 := hs.v 0 39 hd; clear hs; have hsI := HSI.out; go_simp; exact hK s0' wx (fun _ _ => rfl) hR
         refine Cs (fun D s0' wx hR _ hd _ _ hs K hK => ?_) ?_
         ·have e40 := hs.v 1 40 hd; clear hs; have c9 : wx.cell? ⟨wr.heap.size, s, none⟩ = some (.int .i64 (-1)) := ((hR.blk 4 rfl).cell s).trans HIX.out; go_simp; exact hK s0' wx (fun _ _ => rfl) hR
         refine Cs (fun D s0' wx hR _ hd _ _ hs K hK => ?_) ?_
         ·have e41 := hs.v 2 41 hd; clear hs; go_simp; exact hK s0' wx (fun _ _ => rfl) hR
         refine Cs (fun D s0' wx hR _ hd _ _ hs K hK => ?_) ?_
         ·have e42 := hs.v 3 42 hd; clear hs; go_simp; exact hK s0' wx (fun _ _ => rfl) hR
         refine CsG (fun D s0' wx hR _ hd _ _ hs K hK => ?_) ?_
         ·refine hs.nope 4 43 true hd ?_; exact hK s0' wx (fun _ _ => rfl) hR
         refine CsG (fun D s0' wx hR _ hd _ _ hs K hK => ?_) ?_
         ·refine hs.nope 4 43 true hd ?_; exact hK s0' wx (fun _ _ => rfl) hR
         refine CsG (fun D s0' wx hR _ hd _ _ hs K hK => ?_) ?_
         ·refine hs.nope 4 43 true hd ?_; exact hK s0' wx (fun _ _ => rfl) hR
         refine CsG (fun D s0' wx hR _ hd _ _ hs K hK => ?_) ?_
         ·refine hs.nope 4 43 true hd ?_; exact hK s0' wx (fun _ _ => rfl) hR
         refine CsG (fun D s0' wx hR _ hd _ _ hs K hK => ?_) ?_
         ·refine hs.nope 4 43 true hd ?_; exact hK s0' wx (fun _ _ => rfl) hR
         refine CsG (fun D s0' wx hR _ hd _ _ hs K hK => ?_) ?_
         ·refine hs.nope 4 43 true hd ?_; exact hK s0' wx (fun _ _ => rfl) hR
         refine CsG (fun D s0' wx hR _ hd _ _ hs K hK => ?_) ?_
         ·refine hs.nope 4 43 true hd ?_; exact hK s0' wx (fun _ _ => rfl) hR
         refine CsG (fun D s0' wx hR _ hd _ _ hs K hK => ?_) ?_
         ·refine hs.nope 4 43 true hd ?_; exact hK s0' wx (fun _ _ => rfl) hR
         refine CsG (fun D s0' wx hR _ hd _ _ hs K hK => ?_) ?_
         ·refine hs.nope 4 43 true hd ?_; exact hK s0' wx (fun _ _ => rfl) hR
         refine CsG (fun D s0' wx hR _ hd _ _ hs K hK => ?_) ?_
         ·refine hs.nope 4 43 true hd ?_; exact hK s0' wx (fun _ _ => rfl) hR
         refine CsG (fun D s0' wx hR _ hd _ _ hs K hK => ?_) ?_
         ·refine hs.nope 4 43 true hd ?_; exact hK s0' wx (fun _ _ => rfl) hR
         refine CsG (fun D s0' wx hR _ hd _ _ hs K hK => ?_) ?_
         ·refine hs.nope 4 43 true hd ?_; exact hK s0' wx (fun _ _ => rfl) hR
         refine Cs (fun D s0' wx hR _ hd _ _ hs K hK => ?_) ?_
         ·have e43 := hs.v 4 43 hd; have e55 := hs.v 16 55 hd; clear hs; go_simp; exact hK s0' wx (fun _ _ => rfl) hR
         exact StepAll.nil
        ·intro D s0' wx hR hD; simp only [putA, Act.put, List.setIfInBounds_toArray, List.set_cons_zero, List.set_cons_succ]; have HT : Hid (St w wx [rBlk w.heap.size 26 #[.int .i64 s0, .slice G gn gc, .slice G' n' c'], rBeh (.slice (some ⟨b, off, none⟩) n' RC) ds, rInts (.slice (some ⟨g, 0, none⟩) 32 sc) (stepsL ds p), rInts x7 pre, rBlk wr.heap.size 108 R.toArray]) := Lib.hid (hR.to_st [0, 1, 2, 3, 4] (by decide) rfl); clear hR hD; go_wp2
         go_roundw
         case rel => exact ⟨j + 1, rfl, rfl, by omega, by go_num, HPN2, HT.out.pick [0, 1, 2, 3] (by decide) rfl rfl⟩
         case measure => simp [intOf]; omega
       | some q =>
        have hq := deedDo_lt d s q HDO.out hs HO.out; have HQI : Hid ((q : Int) < 32) := Lib.hid (by omega); have HWR : Hid (IntKind.i64.wrap (r : Int) = (r : Int)) := Lib.hid (by rw [IntKind.wrap_i64]; omega); have HIX : Hid (R.toArray[s]? = some (.int .i64 (q : Int))) := Lib.hid (by simpa [opt] using HRS.out); obtain ⟨vq, hvq⟩ : ∃ vq, stpV ds p q = vq := ⟨_, rfl⟩; have HQ : Hid ((stepsL ds p)[q]? = some vq) := Lib.hid (by rw [stepsL_at ds p q hq, hvq]); obtain ⟨bv, hbv⟩ : ∃ bv, (vq == (r : Int)) = bv := ⟨_, rfl⟩; have HBV := Lib.hid hbv; have HNR : Hid (near ds p r q = bv) := Lib.hid (by unfold near; rw [hvq, hbv]); have HVQ := Bx.mk hvq; clear hvq hbv
        go_upto_region 13 with (first
         | (refine wpList_load_arr 108 (.tmp 37) rfl rfl 3 32 undBeh b (off + j * 32) R rfl (by rw [HLEN.out]; exact infoBeh) HLD.out ?_)
         | (refine wpList_store_arr 108 (.tmp 9) (.tmp 38) rfl rfl _ R rfl rfl (by rw [HLEN.out]; exact infoBeh) (by rw [HLEN.out]; rfl) HOC.out ?_))
        refine wpr (σ := Unit)
         (fun s0' i => match i with
          | 0 => .int .i64 (s : Int)
          | 1 => .pointer (some ⟨wr.heap.size, s, none⟩)
          | 2 => .int .i64 (q : Int)
          | 3 => .bool true
          | 4 => .bool true
          | 5 => .slice (some ⟨g, 0, none⟩) 32 sc
          | 6 => .int .i64 (s : Int)
          | 7 => .pointer (some ⟨wr.heap.size, s, none⟩)
          | 8 => .int .i64 (q : Int)
          | 9 => .pointer (some ⟨g, q, none⟩)
          | 10 => .int .i64 vq
          | 11 => .slice (some ⟨g, 0, none⟩) 32 sc
          | 12 => .int .i64 (s : Int)
          | 13 => .pointer (some ⟨g, s, none⟩)
          | 14 => .int .i64 ((r : Int) + 1)
          | 15 => .int .i64 (r : Int)
          | 16 => .bool bv
          | 17 => .bool bv
          | _ => undef)
         (fun D s0' wx => Sn w wx fun i => match i with
          | 0 => some (rBlk w.heap.size 26 #[.int .i64 s0, .slice G gn gc, .slice G' n' c'])
          | 1 => some (rBeh (.slice (some ⟨b, off, none⟩) n' RC) ds)
          | 2 => some (rInts (.slice (some ⟨g, 0, none⟩) 32 sc) (stepsL ds p))
          | 3 => some (rInts x7 pre)
          | 4 => some (rBlk wr.heap.size 108 R.toArray)
          | _ => none)
         () ?_ ?_ ?_
        ·intro D hD; refine ((Sn.of_st HM5.out).quiet ((Below.refl _ _).drew)).congr fun i => ?_
         match i with
         | 0 | 1 | 2 | 3 | 4 => rfl
         | i + 5 => rfl
        ·refine Cs (fun D s0' wx hR _ hd _ _ hs K hK => ?_) ?_
         ·have e6 := hs.o 6 (.int .i64 (s : Int)); clear hs; go_simp; exact hK s0' wx (fun _ _ => rfl) hR
         refine Cs (fun D s0' wx hR _ hd _ _ hs K hK => ?_) ?_
         ·have e9 := hs.o 9 (.pointer (some ⟨wr.heap.size, 0, none⟩)); have e39 := hs.v 0 39 hd; clear hs; have hsI := HSI.out; go_simp; exact hK s0' wx (fun _ _ => rfl) hR
         refine Cs (fun D s0' wx hR _ hd _ _ hs K hK => ?_) ?_
         ·have e40 := hs.v 1 40 hd; clear hs; have c9 : wx.cell? ⟨wr.heap.size, s, none⟩ = some (.int .i64 (q : Int)) := ((hR.blk 4 rfl).cell s).trans HIX.out; go_simp; exact hK s0' wx (fun _ _ => rfl) hR
         refine Cs (fun D s0' wx hR _ hd _ _ hs K hK => ?_) ?_
         ·have e41 := hs.v 2 41 hd; clear hs; go_simp; exact hK s0' wx (fun _ _ => rfl) hR
         refine Cs (fun D s0' wx hR _ hd _ _ hs K hK => ?_) ?_
         ·have e42 := hs.v 3 42 hd; clear hs; go_simp; exact hK s0' wx (fun _ _ => rfl) hR
         refine CsG (fun D s0' wx hR _ hd _ _ hs K hK => ?_) ?_
         ·refine hs.yes 4 43 true hd ?_; have e5 := hs.o 5 (.slice (some ⟨g, 0, none⟩) 32 sc); clear hs; go_simp; exact hK s0' wx (fun _ _ => rfl) hR
         refine CsG (fun D s0' wx hR _ hd _ _ hs K hK => ?_) ?_
         ·refine hs.yes 4 43 true hd ?_; have e6 := hs.o 6 (.int .i64 (s : Int)); clear hs; go_simp; exact hK s0' wx (fun _ _ => rfl) hR
         refine CsG (fun D s0' wx hR _ hd _ _ hs K hK => ?_) ?_
         ·refine hs.yes 4 43 true hd ?_; have e9 := hs.o 9 (.pointer (some ⟨wr.heap.size, 0, none⟩)); have e45 := hs.v 6 45 hd; clear hs; have hsI := HSI.out; go_simp; exact hK s0' wx (fun _ _ => rfl) hR
         refine CsG (fun D s0' wx hR _ hd _ _ hs K hK => ?_) ?_
         ·refine hs.yes 4 43 true hd ?_; have e46 := hs.v 7 46 hd; clear hs; have c9 : wx.cell? ⟨wr.heap.size, s, none⟩ = some (.int .i64 (q : Int)) := ((hR.blk 4 rfl).cell s).trans HIX.out; go_simp; exact hK s0' wx (fun _ _ => rfl) hR
         refine CsG (fun D s0' wx hR _ hd _ _ hs K hK => ?_) ?_
         ·refine hs.yes 4 43 true hd ?_; have e44 := hs.v 5 44 hd; have e47 := hs.v 8 47 hd; clear hs; have hqI := HQI.out; go_simp; exact hK s0' wx (fun _ _ => rfl) hR
         refine CsG (fun D s0' wx hR _ hd _ _ hs K hK => ?_) ?_
         ·refine hs.yes 4 43 true hd ?_; have e48 := hs.v 9 48 hd; clear hs; have cq : wx.cell? ⟨g, q, none⟩ = some (.int .i64 vq) := (hR.cellI 2 rfl (stepsL_len _ _) q _ HQ.out).1; go_simp; exact hK s0' wx (fun _ _ => rfl) hR
         refine CsG (fun D s0' wx hR _ hd _ _ hs K hK => ?_) ?_
         ·refine hs.yes 4 43 true hd ?_; have e5 := hs.o 5 (.slice (some ⟨g, 0, none⟩) 32 sc); clear hs; go_simp; exact hK s0' wx (fun _ _ => rfl) hR
         refine CsG (fun D s0' wx hR _ hd _ _ hs K hK => ?_) ?_
         ·refine hs.yes 4 43 true hd ?_; have e6 := hs.o 6 (.int .i64 (s : Int)); clear hs; go_simp; exact hK s0' wx (fun _ _ => rfl) hR
         refine CsG (fun D s0' wx hR _ hd _ _ hs K hK => ?_) ?_
         ·refine hs.yes 4 43 true hd ?_; have e50 := hs.v 11 50 hd; have e51 := hs.v 12 51 hd; clear hs; have hsI := HSI.out; go_simp; exact hK s0' wx (fun _ _ => rfl) hR
         refine CsG (fun D s0' wx hR _ hd _ _ hs K hK => ?_) ?_
         ·refine hs.yes 4 43 true hd ?_; have e52 := hs.v 13 52 hd; clear hs; have cs : wx.cell? ⟨g, s, none⟩ = some (.int .i64 ((r : Int) + 1)) := (hR.cellI 2 rfl (stepsL_len _ _) s _ HSQ.out).1; go_simp; exact hK s0' wx (fun _ _ => rfl) hR
         refine CsG (fun D s0' wx hR _ hd _ _ hs K hK => ?_) ?_
         ·refine hs.yes 4 43 true hd ?_; have e53 := hs.v 14 53 hd; clear hs; go_simp; rw [HWR.out]; exact hK s0' wx (fun _ _ => rfl) hR
         refine CsG (fun D s0' wx hR _ hd _ _ hs K hK => ?_) ?_
         ·refine hs.yes 4 43 true hd ?_; have e49 := hs.v 10 49 hd; have e54 := hs.v 15 54 hd; clear hs; have hbv := HBV.out; go_simp; exact hK s0' wx (fun _ _ => rfl) hR
         refine Cs (fun D s0' wx hR _ hd _ _ hs K hK => ?_) ?_
         ·have e43 := hs.v 4 43 hd; have e55 := hs.v 16 55 hd; clear hs; go_simp; exact hK s0' wx (fun _ _ => rfl) hR
         exact StepAll.nil
        ·intro D s0' wx hR hD; simp only [putA, Act.put, List.setIfInBounds_toArray, List.set_cons_zero, List.set_cons_succ]; have HT : Hid (St w wx [rBlk w.heap.size 26 #[.int .i64 s0, .slice G gn gc, .slice G' n' c'], rBeh (.slice (some ⟨b, off, none⟩) n' RC) ds, rInts (.slice (some ⟨g, 0, none⟩) 32 sc) (stepsL ds p), rInts x7 pre, rBlk wr.heap.size 108 R.toArray]) := Lib.hid (hR.to_st [0, 1, 2, 3, 4] (by decide) rfl); clear hR hD
         cases bv with
         | false =>
          have HPN2 := Bx.mk ((pick_not (f := near ds p r) HDK.out HO.out HNR.out).trans HP.out); go_wp2
          go_roundw
          case rel => exact ⟨j + 1, rfl, rfl, by omega, by go_num, HPN2, HT.out.pick [0, 1, 2, 3] (by decide) rfl rfl⟩
          case measure => simp [intOf]; omega
         | true =>
          have HPK := Bx.mk (HP.out.symm.trans (pick_yes (f := near ds p r) HDK.out HO.out HNR.out)); have HW2 := Bx.mk (walk_step HW.out HPK.out); have hvr : vq = (r : Int) := by simpa using HBV.out
          have HV2 : Bx (stpV ds p q = (r : Int)) := Bx.mk (HVQ.out.trans hvr); have HROW := Lib.hid (HT.out.ownI 3 rfl)
          have HAP : Hid (∀ v3 w3, w3.ownsRow 0 3 1 v3 (pre.length + 1) (ints pre ++ [Value.int .i64 (j : Int)]) → (wx.alloc (.cells #[.int .i64 (j : Int)] 3)).grownBy w3 x7.ownBlock → (v3.ownBlock = x7.ownBlock ∨ v3.ownBlock = some (wx.alloc (.cells #[.int .i64 (j : Int)] 3)).heap.size) →
            St w w3 [rBlk w.heap.size 26 #[.int .i64 s0, .slice G gn gc, .slice G' n' c'], rBeh (.slice (some ⟨b, off, none⟩) n' RC) ds, rInts (.slice (some ⟨g, 0, none⟩) 32 sc) (stepsL ds p), rInts v3 (pre ++ [(j : Int)]), rBlk wr.heap.size 108 R.toArray]) :=
           Lib.hid fun v3 w3 h1 h2 h3 => St.appI (v := x7) (xs := pre) (ys := [(j : Int)]) ((HT.out.alloc #[.int .i64 (j : Int)] 3).pick [0, 1, 2, 3, 4] (by decide) rfl rfl) 3 rfl rfl h1 (by intro y hy; simp at hy; subst hy; exact wf_i64_mk (by omega)) h2 h3
          have HMEAS2 : Hid ((stpV ds p q).toNat = r) := Lib.hid (toNat_nat' HV2.out); have hsz : 0 ≤ wx.heap.size := Nat.zero_le _; clear hvr
          go_wp2_with (at_builtin; refine wp_app elInt rfl _ _ rfl 0 x7 pre.length (ints pre) rfl (HROW.out.alloc _) _ _ 1 1 [.int .i64 (j : Int)] rfl (RdRow.new wx [.int .i64 (j : Int)] 3 1 1 rfl (by unfold maxLen; omega)) (by simp [Value.oneCell']) (by omega) (by omega) (Nat.zero_le _) ?_; intro v3 w3 hown3 hg3 hat3; have HS6 := Lib.hid (HAP.out v3 w3 hown3 hg3 hat3); have c9 : w3.cell? ⟨wr.heap.size, s, none⟩ = some (.int .i64 (q : Int)) := ((HS6.out.blk 4 rfl).cell s).trans HIX.out)
          go_wp2
          go_roundw
          case rel => exact ⟨q, r, pre ++ [(j : Int)], v3, rfl, rfl, hq, HV2, by simp; omega, HW2, HS6.out.pick [0, 1, 2, 3] (by decide) rfl rfl⟩
          case measure =>
           show (stpV ds p q).toNat < (stpV ds p s).toNat
           have h1 := HMEAS.out; have h2 := HMEAS2.out
           omega
      ·exact (pick_ends HDOK.out hs HV.out (by
        have := HP.out
        rw [List.drop_of_length_le (by rw [HDL.out]; omega)] at this
        exact this.symm)).elim
end Go.Proofs.YtkmcengmglgdeaaGreatDoor
