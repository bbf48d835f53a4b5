
import Derived.Test.YtkmcengmglgdeaaGreatDoorSShortP
import Derived.Test.YtkmcengmglgdeaaGreatDoorSShortS
import Derived.Test.YtkmcengmglgdeaaGreatDoorSBookNew
namespace Go.Proofs.YtkmcengmglgdeaaGreatDoor
set_option linter.unusedVariables false
set_option linter.unusedSimpArgs false
set_option maxRecDepth 100000
set_option maxHeartbeats 8000000
open Go.ChangeShapes Go.WideShapes Go.ChangeAt Go.RowKit
theorem bookCopy_any (v : Value) (b : BookD) (w : World) (h : RdB w w.heap.size v b) : Calls Tryz.prog 49 #[v] w (Gives w id fun v' => [rBook v' b]) := by
 obtain ⟨G, gn, gc, G', n', c', D', dn, dc, hv⟩ := h.form; subst hv; obtain ⟨hdn, hdl, hst, -⟩ := h.done; obtain ⟨os, hos⟩ : ∃ x, b.order.start = x := ⟨_, rfl⟩; obtain ⟨st, hstt⟩ : ∃ x, b.state = x := ⟨_, rfl⟩; have HO := Lib.hid h.order; have HD := Lib.hid hdn; have HDL : Hid (b.done.length = dn) := Lib.hid hdn.len; rw [hstt] at hst; have HST := Lib.hid hst; rw [hos] at HO; rw [hos, hstt]
 have S0 : St w ((w.alloc (Obj.cells #[.int .i64 os, .slice G gn gc, .slice G' n' c', .slice D' dn dc, .int .i64 st] 28)).alloc (Obj.cells #[.int .i64 0, .slice none 0 0, .slice none 0 0, .slice none 0 0, .int .i64 0] 28)) [rBlk w.heap.size 28 #[.int .i64 os, .slice G gn gc, .slice G' n' c', .slice D' dn dc, .int .i64 st], rBlk (w.heap.size + 1) 28 #[.int .i64 0, .slice none 0 0, .slice none 0 0, .slice none 0 0, .int .i64 0]] := by
  have := ((St.refl w).alloc #[.int .i64 os, .slice G gn gc, .slice G' n' c', .slice D' dn dc, .int .i64 st] 28).alloc #[.int .i64 0, .slice none 0 0, .slice none 0 0, .slice none 0 0, .int .i64 0] 28
  simpa using this
 have HS0 := Lib.hid S0; clear S0 hdn h; go_enter Tryz.func49, Tryz.ntmps49
 go_upto_region 1 with (fail)
 refine wpr (σ := (Option Addr × Nat × Nat × Option Addr × Nat × Nat) × Option Addr × Nat)
  (fun s i => match i with
   | 0 => .pointer (some ⟨w.heap.size, 0, none⟩)
   | 1 => .agg #[.int .i64 os, .slice G gn gc, .slice G' n' c']
   | 2 => .agg #[.int .i64 os, .slice s.1.1 s.1.2.1 s.1.2.2.1, .slice s.1.2.2.2.1 s.1.2.2.2.2.1 s.1.2.2.2.2.2]
   | 3 => .pointer (some ⟨w.heap.size, 3, none⟩)
   | 4 => .slice D' dn dc
   | 5 => .slice s.2.1 dn s.2.2
   | 6 => .pointer (some ⟨w.heap.size, 4, none⟩)
   | 7 => .int .i64 st
   | 8 => .agg #[.int .i64 os, .slice s.1.1 s.1.2.1 s.1.2.2.1, .slice s.1.2.2.2.1 s.1.2.2.2.2.1 s.1.2.2.2.2.2, .slice s.2.1 dn s.2.2, .int .i64 st]
   | _ => undef)
  (fun D s wx => Sn w wx fun i => match i with
   | 0 => some (rBlk w.heap.size 28 #[.int .i64 os, .slice G gn gc, .slice G' n' c', .slice D' dn dc, .int .i64 st])
   | 1 => some (rBlk (w.heap.size + 1) 28 (if D 9 = true then #[.int .i64 os, .slice s.1.1 s.1.2.1 s.1.2.2.1, .slice s.1.2.2.2.1 s.1.2.2.2.2.1 s.1.2.2.2.2.2, .slice s.2.1 dn s.2.2, .int .i64 st] else #[.int .i64 0, .slice none 0 0, .slice none 0 0, .slice none 0 0, .int .i64 0]))
   | 2 => if D 2 = true then some (rTask (.agg #[.int .i64 os, .slice s.1.1 s.1.2.1 s.1.2.2.1, .slice s.1.2.2.2.1 s.1.2.2.2.2.1 s.1.2.2.2.2.2]) b.order) else none
   | 3 => if D 5 = true then some (rInts (.slice s.2.1 dn s.2.2) b.done) else none
   | _ => none)
  ((none, 0, 0, none, 0, 0), none, 0) ?_ ?_ ?_
 ·intro D hD; refine ((Sn.of_st HS0.out).quiet ((Below.refl _ _).drew)).congr fun i => ?_
  match i with
  | 0 => rfl
  | 1 => simp only [hD 9 (by decide)]; rfl
  | 2 => simp only [hD 2 (by decide)]; rfl
  | 3 => simp only [hD 5 (by decide)]; rfl
  | q + 4 => rfl
 ·refine Cs (fun D s wx hR _ hd _ _ hs K hK => ?_) ?_
  ·have e1 := hs.o 1 (.pointer (some ⟨w.heap.size, 0, none⟩)); clear hs; go_simp; exact hK s wx sv hR
  refine Cs (fun D s wx hR _ hd _ _ hs K hK => ?_) ?_
  ·have e3 := hs.v 0 3 hd; clear hs; have qk := (hR.blk 0 rfl).cell; go_simp; exact hK s wx sv hR
  refine Cs (fun D s wx hR (hDi : D 2 = false) hd hsh _ hs K hK => ?_) ?_
  ·have e4 := hs.v 1 4 hd; have g4 := getQ e4; clear hs; have n8 : D 8 = false := hsh.no hDi 8 rfl ⟨2, .data⟩ (by simp) rfl rfl; have n9 : D 9 = false := hsh.no n8 9 rfl ⟨8, .data⟩ (by simp) rfl rfl; go_simp; refine (taskCopy_any _ b.order _ (HO.out.up hR.below)).mono ?_; rintro e w2 ⟨v2, rfl, s2⟩; obtain ⟨C1, n1, c1, C2, n2, c2, hv⟩ := s2.formT 0 rfl; rw [hos] at hv; subst hv
   refine hK ((C1, n1, c1, C2, n2, c2), s.2) w2
    (fun j hj => by
     match j, hj with
     | 0, hj | 1, hj => rfl
     | 2, hj => rw [hDi] at hj; cases hj
     | 3, hj | 4, hj | 5, hj | 6, hj | 7, hj => rfl
     | 8, hj => rw [n8] at hj; cases hj
     | 9, hj => rfl
     | _ + 10, hj => rfl)
    ((hR.add 2 (if_neg (by rw [hDi]; simp)) s2).congr
     (fun i => by
      match i with
      | 0 => rfl
      | 1 => (show some (rBlk _ _ (if D 9 = true then _ else _)) = some (rBlk _ _ (if D 9 = true then _ else _)); rw [n9] <;> rfl)
      | 2 | 3 => rfl
      | q + 4 => exact (if_neg (show ¬ (q + 4 = 2) by omega)).symm))
  refine Cs (fun D s wx hR _ hd _ _ hs K hK => ?_) ?_
  ·have e1 := hs.o 1 (.pointer (some ⟨w.heap.size, 0, none⟩)); clear hs; go_simp; exact hK s wx sv hR
  refine Cs (fun D s wx hR _ hd _ _ hs K hK => ?_) ?_
  ·have e6 := hs.v 3 6 hd; clear hs; have qk := (hR.blk 0 rfl).cell; go_simp; exact hK s wx sv hR
  refine Cs (fun D s wx hR (hDi : D 5 = false) hd hsh _ hs K hK => ?_) ?_
  ·have e7 := hs.v 4 7 hd; have g7 := getQ e7; clear hs; have n8 : D 8 = false := hsh.no hDi 8 rfl ⟨5, .data⟩ (by simp) rfl rfl; have n9 : D 9 = false := hsh.no n8 9 rfl ⟨8, .data⟩ (by simp) rfl rfl; go_simp; refine (clone_any D' dn dc b.done _ (HD.out.up hR.below) (by omega)).mono ?_; rintro e w2 ⟨v2, rfl, s2⟩; obtain ⟨C1, c1, hv, -⟩ := s2.rdI 0 rfl; rw [HDL.out] at hv; subst hv
   refine hK (s.1, C1, c1) w2
    (fun j hj => by
     match j, hj with
     | 0, hj | 1, hj | 2, hj | 3, hj | 4, hj => rfl
     | 5, hj => rw [hDi] at hj; cases hj
     | 6, hj | 7, hj => rfl
     | 8, hj => rw [n8] at hj; cases hj
     | 9, hj => rfl
     | _ + 10, hj => rfl)
    ((hR.add 3 (if_neg (by rw [hDi]; simp)) s2).congr
     (fun i => by
      match i with
      | 0 => rfl
      | 1 => (show some (rBlk _ _ (if D 9 = true then _ else _)) = some (rBlk _ _ (if D 9 = true then _ else _)); rw [n9] <;> rfl)
      | 2 | 3 => rfl
      | q + 4 => exact (if_neg (show ¬ (q + 4 = 3) by omega)).symm))
  refine Cs (fun D s wx hR _ hd _ _ hs K hK => ?_) ?_
  ·have e1 := hs.o 1 (.pointer (some ⟨w.heap.size, 0, none⟩)); clear hs; go_simp; exact hK s wx sv hR
  refine Cs (fun D s wx hR _ hd _ _ hs K hK => ?_) ?_
  ·have e9 := hs.v 6 9 hd; clear hs; have qk := (hR.blk 0 rfl).cell; go_simp; exact hK s wx sv hR
  refine Cs (fun D s wx hR _ hd _ _ hs K hK => ?_) ?_
  ·have e5 := hs.v 2 5 hd; have e8 := hs.v 5 8 hd; have e10 := hs.v 7 10 hd; have g5 := getQ e5; have g8 := getQ e8; have g10 := getQ e10; clear hs; go_simp; exact hK s wx sv hR
  refine Cs (fun D s wx hR (hDi : D 9 = false) hd _ _ hs K hK => ?_) ?_
  ·have e2 := hs.o 2 (.pointer (some ⟨(w.heap.size + 1), 0, none⟩)); have e11 := hs.v 8 11 hd; clear hs; have kb : Blk wx (w.heap.size + 1) 28 #[.int .i64 0, .slice none 0 0, .slice none 0 0, .slice none 0 0, .int .i64 0] := hR.blk 1 (by simp only [hDi] <;> rfl); have f0 := kb.frozen; have qk := kb.cell; go_simp
   exact hK s _ sv ((hR.set5 1 (by simp only [hDi]; rfl) _ _ _ _ _).congr
     (fun i => by
      match i with
      | 0 | 1 | 2 | 3 => rfl
      | q + 4 => exact (if_neg (show ¬ (q + 4 = 1) by omega)).symm))
  exact StepAll.nil
 ·intro D s wx hR hD; simp only [putA, Act.put, List.setIfInBounds_toArray, List.set_cons_zero, List.set_cons_succ]; have HS3 : Hid (St w wx [rTask (.agg #[.int .i64 os, .slice s.1.1 s.1.2.1 s.1.2.2.1, .slice s.1.2.2.2.1 s.1.2.2.2.2.1 s.1.2.2.2.2.2]) b.order, rInts (.slice s.2.1 dn s.2.2) b.done, rBlk (w.heap.size + 1) 28 #[.int .i64 os, .slice s.1.1 s.1.2.1 s.1.2.2.1, .slice s.1.2.2.2.1 s.1.2.2.2.2.1 s.1.2.2.2.2.2, .slice s.2.1 dn s.2.2, .int .i64 st]]) := Lib.hid (hR.to_st [2, 3, 1] (by decide) (by simp only [List.map, hD 2 (by decide), hD 5 (by decide), hD 9 (by decide)] <;> rfl)); clear hR hD; have q1 := HS3.out.cells 2 rfl; go_wp2; refine bodyPost_ret (v := .agg #[.int .i64 os, .slice s.1.1 s.1.2.1 s.1.2.2.1, .slice s.1.2.2.2.1 s.1.2.2.2.2.1 s.1.2.2.2.2.2, .slice s.2.1 dn s.2.2, .int .i64 st]) (by simp [results, Tryz.results49, go_sem, q1]) rfl ⟨_, rfl, ?_⟩
  have := HS3.out.pick [0, 1] (by decide) rfl rfl
  obtain ⟨⟨bs, bg, bd⟩, bdone, bst⟩ := b
  simp only at hos hstt
  subst hos hstt; exact this.book (by rw [HDL.out]; omega) HST.out
def GivesD (o : Option (List Int)) (w : World) (e : Ending) (w' : World) : Prop := ∃ v ds, e = .returned (.tuple #[v, .bool o.isSome]) ∧ (∀ d, o = some d → ds = d) ∧ St w w' [rInts v ds]
theorem GivesD.no {o : Option (List Int)} {w w' : World} (ho : o = none) (h : Below w.heap.size w w') : GivesD o w (.returned (.tuple #[.slice none 0 0, .bool false])) w' :=
 ⟨_, [], by rw [ho]; rfl, (fun d hd => by rw [ho] at hd; cases hd), rInts_nil _ _ h⟩
theorem GivesD.no' {o : Option (List Int)} {w w' : World} {v : Value} {ds : List Int} (ho : o = none) (h : St w w' [rInts v ds]) : GivesD o w (.returned (.tuple #[v, .bool false])) w' :=
 ⟨_, ds, by rw [ho]; rfl, (fun d hd => by rw [ho] at hd; cases hd), h⟩
theorem GivesD.yes {o : Option (List Int)} {w w' : World} {v : Value} {ds : List Int} (ho : o = some ds) (h : St w w' [rInts v ds]) : GivesD o w (.returned (.tuple #[v, .bool true])) w' :=
 ⟨_, ds, by rw [ho]; rfl, (fun d hd => by rw [ho] at hd; injection hd), h⟩
theorem wf_nonneg {x : Int} (h0 : 0 ≤ x) (h1 : x ≤ 1000000) : (Lit.int .i64 x).wf = true := wf_i64_mk (by omega)
theorem done0 {b : BookD} {m : Int} : doneAfter b ⟨0, m⟩ = if b.done.length < 40 ∧ m ∈ deedsMay b.order b.state then some (b.done ++ [m]) else none := by unfold doneAfter; rw [if_pos rfl]
theorem done1 {b : BookD} {m : Int} : doneAfter b ⟨1, m⟩ = if 1 ≤ m ∧ m ≤ b.done.length then some (b.done.take (b.done.length - m.toNat)) else none := by unfold doneAfter; rw [if_neg (by simp), if_pos rfl]
theorem done2 {b : BookD} {m : Int} : doneAfter b ⟨2, m⟩ = if m = 0 ∧ ((planShort b.order b.done).getD []).length < b.done.length then some ((planShort b.order b.done).getD []) else none := by unfold doneAfter; rw [if_neg (by simp), if_neg (by simp), if_pos rfl]
theorem done3 {b : BookD} {m : Int} : doneAfter b ⟨3, m⟩ = if m = 0 ∧ 0 < ((restFor b).getD []).length ∧ b.done.length + ((restFor b).getD []).length ≤ 40 then some (b.done ++ (restFor b).getD []) else none := by unfold doneAfter; rw [if_neg (by simp), if_neg (by simp), if_neg (by simp), if_pos rfl]
theorem done4 {b : BookD} {k m : Int} (h0 : k ≠ 0) (h1 : k ≠ 1) (h2 : k ≠ 2) (h3 : k ≠ 3) : doneAfter b ⟨k, m⟩ = none := by unfold doneAfter; rw [if_neg h0, if_neg h1, if_neg h2, if_neg h3]
theorem doneAfter_any (v : Value) (b : BookD) (k m : Int) (w : World) (h : RdB w w.heap.size v b) (hok : bookOk b = true) (hmw : (Lit.int .i64 m).wf = true) :
  Calls Tryz.prog 110 #[v, .agg #[.int .i64 k, .int .i64 m]] w (GivesD (doneAfter b ⟨k, m⟩) w) := by
 obtain ⟨G, gn, gc, G', n', c', D', dn, dc, hv⟩ := h.form; subst hv; obtain ⟨hdn, hdl, hst, -⟩ := h.done; have hdcap := hdn.cap; have hdcm := hdn.capMax
 unfold maxLen at hdcm
 obtain ⟨os, hos⟩ : ∃ x, b.order.start = x := ⟨_, rfl⟩; obtain ⟨st, hstt⟩ : ∃ x, b.state = x := ⟨_, rfl⟩; have HBK := Lib.hid h; have HO := Lib.hid h.order; have HD := Lib.hid hdn; have HDL : Hid (b.done.length = dn) := Lib.hid hdn.len; have HOS := Bx.mk hos; have HSTT := Bx.mk hstt; have HOKB := Bx.mk hok; have HMW := Lib.hid hmw; rw [hstt] at hst; have HST := Lib.hid hst; have hd40 : dn ≤ 40 := by rw [← HDL.out]; exact (bookOk_parts hok).2.1
 rw [hos] at HO; rw [hos, hstt] at HBK; rw [hos, hstt]
 have S0 : St w ((w.alloc (Obj.cells #[.int .i64 os, .slice G gn gc, .slice G' n' c', .slice D' dn dc, .int .i64 st] 28)).alloc (Obj.cells #[.int .i64 k, .int .i64 m] 64)) [rBlk w.heap.size 28 #[.int .i64 os, .slice G gn gc, .slice G' n' c', .slice D' dn dc, .int .i64 st], rBlk (w.heap.size + 1) 64 #[.int .i64 k, .int .i64 m]] := by
  have := ((St.refl w).alloc #[.int .i64 os, .slice G gn gc, .slice G' n' c', .slice D' dn dc, .int .i64 st] 28).alloc #[.int .i64 k, .int .i64 m] 64
  simpa using this
 have HS0 := Lib.hid S0; clear S0 hdn h hok hos hstt hst hmw
 by_cases h0 : k = 0
 ·subst h0
  by_cases hge : 40 ≤ dn
  ·have HN : Bx (doneAfter b ⟨0, m⟩ = none) := Bx.mk (by rw [done0, if_neg (by rw [HDL.out]; omega)]); have hgei : (40 : Int) ≤ (dn : Int) := by omega
   go_enter Tryz.func110, Tryz.ntmps110
   go_upto_region 4 with (fail)
   refine wpr (σ := Unit)
    (fun s i => match i with
     | 0 => .int .i64 (dn : Int)
     | 1 => .bool true
     | 2 => .bool true
     | 12 => .bool true
     | _ => undef)
    (fun D s wx => Sn w wx fun i => match i with
     | 0 => some (rBlk w.heap.size 28 #[.int .i64 os, .slice G gn gc, .slice G' n' c', .slice D' dn dc, .int .i64 st])
     | 1 => some (rBlk (w.heap.size + 1) 64 #[.int .i64 0, .int .i64 m])
     | _ => none)
    () ?_ ?_ ?_
   ·intro D hD; refine ((Sn.of_st HS0.out).quiet ((Below.refl _ _).drew)).congr fun i => ?_
    match i with
    | 0 | 1 => rfl
    | q + 2 => rfl
   ·refine Cs (fun D s wx hR _ hd _ _ hs K hK => ?_) ?_
    ·have e6 := hs.o 6 (.int .i64 (dn : Int)); clear hs; go_simp; exact hK s wx sv hR
    refine Cs (fun D s wx hR _ hd _ _ hs K hK => ?_) ?_
    ·have e18 := hs.v 0 18 hd; clear hs; go_simp; exact hK s wx sv hR
    refine Cs (fun D s wx hR _ hd _ _ hs K hK => ?_) ?_
    ·have e19 := hs.v 1 19 hd; clear hs; go_simp; exact hK s wx sv hR
    refine CsG (fun D s wx hR _ hd _ _ hs K hK => ?_) ?_
    ·refine hs.nope 2 20 false hd ?_; exact hK s wx sv hR
    refine CsG (fun D s wx hR _ hd _ _ hs K hK => ?_) ?_
    ·refine hs.nope 2 20 false hd ?_; exact hK s wx sv hR
    refine CsG (fun D s wx hR _ hd _ _ hs K hK => ?_) ?_
    ·refine hs.nope 2 20 false hd ?_; exact hK s wx sv hR
    refine CsG (fun D s wx hR _ hd _ _ hs K hK => ?_) ?_
    ·refine hs.nope 2 20 false hd ?_; exact hK s wx sv hR
    refine CsG (fun D s wx hR _ hd _ _ hs K hK => ?_) ?_
    ·refine hs.nope 2 20 false hd ?_; exact hK s wx sv hR
    refine CsG (fun D s wx hR _ hd _ _ hs K hK => ?_) ?_
    ·refine hs.nope 2 20 false hd ?_; exact hK s wx sv hR
    refine CsG (fun D s wx hR _ hd _ _ hs K hK => ?_) ?_
    ·refine hs.nope 2 20 false hd ?_; exact hK s wx sv hR
    refine CsG (fun D s wx hR _ hd _ _ hs K hK => ?_) ?_
    ·refine hs.nope 2 20 false hd ?_; exact hK s wx sv hR
    refine CsG (fun D s wx hR _ hd _ _ hs K hK => ?_) ?_
    ·refine hs.nope 2 20 false hd ?_; exact hK s wx sv hR
    refine Cs (fun D s wx hR _ hd _ _ hs K hK => ?_) ?_
    ·have e20 := hs.v 2 20 hd; have e29 := hs.v 11 29 hd; clear hs; go_simp; exact hK s wx sv hR
    exact StepAll.nil
   ·intro D s wx hR hD; simp only [putA, Act.put, List.setIfInBounds_toArray, List.set_cons_zero, List.set_cons_succ]; have HB := Lib.hid (hR.to_st [0, 1] (L := [rBlk w.heap.size 28 #[.int .i64 os, .slice G gn gc, .slice G' n' c', .slice D' dn dc, .int .i64 st], rBlk (w.heap.size + 1) 64 #[.int .i64 0, .int .i64 m]]) (by decide) rfl).below; clear hR hD; go_wp2; exact bodyPost_ret (v := .tuple #[.slice none 0 0, .bool false]) (by simp [results, Tryz.results110, go_sem]) rfl (GivesD.no HN.out HB.out)
  ·have hgei : ¬ (40 : Int) ≤ (dn : Int) := by omega
   have hgei' : (dn : Int) < 40 := by omega
   obtain ⟨may, hmay⟩ : ∃ x, deedsMay b.order st = x := ⟨_, rfl⟩; have HMAY := Bx.mk hmay; obtain ⟨bm, hbm⟩ : ∃ x, decide (m ∈ may) = x := ⟨_, rfl⟩; have HBM := Bx.mk hbm; clear hmay hbm; go_enter Tryz.func110, Tryz.ntmps110
   go_upto_region 4 with (fail)
   refine wpr (σ := Option Addr × Nat)
    (fun s i => match i with
     | 0 => .int .i64 (dn : Int)
     | 1 => .bool false
     | 2 => .bool false
     | 3 => .pointer (some ⟨w.heap.size, 0, none⟩)
     | 4 => .agg #[.int .i64 os, .slice G gn gc, .slice G' n' c']
     | 5 => .pointer (some ⟨w.heap.size, 4, none⟩)
     | 6 => .int .i64 st
     | 7 => .slice s.1 may.length s.2
     | 8 => .pointer (some ⟨(w.heap.size + 1), 1, none⟩)
     | 9 => .int .i64 m
     | 10 => .bool bm
     | 11 => .bool (!bm)
     | 12 => .bool (!bm)
     | _ => undef)
    (fun D s wx => Sn w wx fun i => match i with
     | 0 => some (rBlk w.heap.size 28 #[.int .i64 os, .slice G gn gc, .slice G' n' c', .slice D' dn dc, .int .i64 st])
     | 1 => some (rBlk (w.heap.size + 1) 64 #[.int .i64 0, .int .i64 m])
     | 2 => if D 7 = true then some (rInts (.slice s.1 may.length s.2) may) else none
     | _ => none)
    (none, 0) ?_ ?_ ?_
   ·intro D hD; refine ((Sn.of_st HS0.out).quiet ((Below.refl _ _).drew)).congr fun i => ?_
    match i with
    | 0 | 1 => rfl
    | 2 => simp only [hD 7 (by decide)]; rfl
    | q + 3 => rfl
   ·refine Cs (fun D s wx hR _ hd _ _ hs K hK => ?_) ?_
    ·have e6 := hs.o 6 (.int .i64 (dn : Int)); clear hs; go_simp; exact hK s wx sv hR
    refine Cs (fun D s wx hR _ hd _ _ hs K hK => ?_) ?_
    ·have e18 := hs.v 0 18 hd; clear hs; go_simp; exact hK s wx sv hR
    refine Cs (fun D s wx hR _ hd _ _ hs K hK => ?_) ?_
    ·have e19 := hs.v 1 19 hd; clear hs; go_simp; exact hK s wx sv hR
    refine CsG (fun D s wx hR _ hd _ _ hs K hK => ?_) ?_
    ·refine hs.yes 2 20 false hd ?_; have e2 := hs.o 2 (.pointer (some ⟨w.heap.size, 0, none⟩)); clear hs; go_simp; exact hK s wx sv hR
    refine CsG (fun D s wx hR _ hd _ _ hs K hK => ?_) ?_
    ·refine hs.yes 2 20 false hd ?_; have e21 := hs.v 3 21 hd; clear hs; have qk := (hR.blk 0 rfl).cell; go_simp; exact hK s wx sv hR
    refine CsG (fun D s wx hR _ hd _ _ hs K hK => ?_) ?_
    ·refine hs.yes 2 20 false hd ?_; have e2 := hs.o 2 (.pointer (some ⟨w.heap.size, 0, none⟩)); clear hs; go_simp; exact hK s wx sv hR
    refine CsG (fun D s wx hR _ hd _ _ hs K hK => ?_) ?_
    ·refine hs.yes 2 20 false hd ?_; have e23 := hs.v 5 23 hd; clear hs; have qk := (hR.blk 0 rfl).cell; go_simp; exact hK s wx sv hR
    refine CsG (fun D s wx hR (hDi : D 7 = false) hd hsh _ hs K hK => ?_) ?_
    ·refine hs.yes 2 20 false hd ?_; have e22 := hs.v 4 22 hd; have e24 := hs.v 6 24 hd; have g22 := getQ e22; have g24 := getQ e24; clear hs; have n10 : D 10 = false := hsh.no hDi 10 rfl ⟨7, .data⟩ (by simp) rfl rfl; have n11 : D 11 = false := hsh.no n10 11 rfl ⟨10, .data⟩ (by simp) rfl rfl; have n12 : D 12 = false := hsh.no n11 12 rfl ⟨11, .data⟩ (by simp) rfl rfl; go_simp; refine (deedsMay_impl _ b.order st _ (HO.out.up hR.below)).mono ?_; rw [HMAY.out]; rintro e2 w2 ⟨v2, rfl, s2⟩; obtain ⟨A2, c2, hv, -⟩ := s2.rdI 0 rfl; subst hv
     refine hK (A2, c2) w2
      (fun j hj => by
       match j, hj with
       | 0, hj | 1, hj | 2, hj | 3, hj | 4, hj | 5, hj | 6, hj => rfl
       | 7, hj => rw [hDi] at hj; cases hj
       | 8, hj | 9, hj => rfl
       | 10, hj => rw [n10] at hj; cases hj
       | 11, hj => rw [n11] at hj; cases hj
       | 12, hj => rw [n12] at hj; cases hj
       | _ + 13, hj => rfl)
      ((hR.add 2 (if_neg (by rw [hDi]; simp)) s2).congr
       (fun i => by
        match i with
        | 0 | 1 | 2 => rfl
        | q + 3 => exact (if_neg (show ¬ (q + 3 = 2) by omega)).symm))
    refine CsG (fun D s wx hR _ hd _ _ hs K hK => ?_) ?_
    ·refine hs.yes 2 20 false hd ?_; have e3 := hs.o 3 (.pointer (some ⟨(w.heap.size + 1), 0, none⟩)); clear hs; go_simp; exact hK s wx sv hR
    refine CsG (fun D s wx hR _ hd _ _ hs K hK => ?_) ?_
    ·refine hs.yes 2 20 false hd ?_; have e26 := hs.v 8 26 hd; clear hs; have qk := (hR.blk 1 rfl).cell; go_simp; exact hK s wx sv hR
    refine CsG (fun D s wx hR _ hd _ _ hs K hK => ?_) ?_
    ·refine hs.yes 2 20 false hd ?_; have e25 := hs.v 7 25 hd; have e27 := hs.v 9 27 hd; have g25 := getQ e25; have g27 := getQ e27; clear hs; have d7 : D 7 = true := hd ⟨7, .data⟩ (by simp) rfl; go_simp; refine (contains_any s.1 may.length s.2 may m _ (hR.rdI' 2 (if_pos d7))).mono ?_; rw [HBM.out]; rintro e2 w2 ⟨rfl, rfl⟩; exact hK s wx sv hR
    refine CsG (fun D s wx hR _ hd _ _ hs K hK => ?_) ?_
    ·refine hs.yes 2 20 false hd ?_; have e28 := hs.v 10 28 hd; clear hs; go_simp; exact hK s wx sv hR
    refine Cs (fun D s wx hR _ hd _ _ hs K hK => ?_) ?_
    ·have e20 := hs.v 2 20 hd; have e29 := hs.v 11 29 hd; clear hs; go_simp; exact hK s wx sv hR
    exact StepAll.nil
   ·intro D s wx hR hD; simp only [putA, Act.put, List.setIfInBounds_toArray, List.set_cons_zero, List.set_cons_succ]; have HS1 := Lib.hid (hR.to_st [0, 1] (L := [rBlk w.heap.size 28 #[.int .i64 os, .slice G gn gc, .slice G' n' c', .slice D' dn dc, .int .i64 st], rBlk (w.heap.size + 1) 64 #[.int .i64 0, .int .i64 m]]) (by decide) rfl); clear hR hD HS0; have q0 := HS1.out.cells 0 rfl; have q1 := HS1.out.cells 1 rfl
    cases bm with
    | false =>
     have HN : Bx (doneAfter b ⟨0, m⟩ = none) := Bx.mk (by rw [done0, if_neg (by rw [HSTT.out, HMAY.out]; exact fun h => of_decide_eq_false HBM.out h.2)]); go_wp2; exact bodyPost_ret (v := .tuple #[.slice none 0 0, .bool false]) (by simp [results, Tryz.results110, go_sem]) rfl (GivesD.no HN.out HS1.out.below)
    | true =>
     have HY : Bx (doneAfter b ⟨0, m⟩ = some (b.done ++ [m])) := Bx.mk (by rw [done0, if_pos (by rw [HSTT.out, HMAY.out, HDL.out]; exact ⟨by omega, of_decide_eq_true HBM.out⟩)]); have S2 := (HS1.out.call (St.lit wx [m] 1 rfl (by simp) (fun x hx => by rw [List.mem_singleton.1 hx]; exact HMW.out))).alloc #[.slice D' dn dc, .slice (some ⟨wx.heap.size, 0, none⟩) 1 1] 23; have hsz : (wx.alloc (.cells #[.int .i64 m] 3)).heap.size = wx.heap.size + 1 := by simp
     have S2' := S2
     have HBL : Hid (Blk ((wx.alloc (.cells #[.int .i64 m] 3)).alloc (.cells #[.slice D' dn dc, .slice (some ⟨wx.heap.size, 0, none⟩) 1 1] 23)) (wx.heap.size + 1) 23 #[.slice D' dn dc, .slice (some ⟨wx.heap.size, 0, none⟩) 1 1]) := Lib.hid (by
      have := S2.blk 3 (g := (wx.alloc (.cells #[.int .i64 m] 3)).heap.size) rfl
      rw [hsz] at this
      exact this)
     have HR1 := Lib.hid (S2.rdI' 2 rfl); have HD2 := Lib.hid (HD.out.up S2.below); have HS2 := Lib.hid (S2.pick [0, 1] (by decide) rfl rfl); clear S2 S2'
     go_wp2_with fail
     refine (concat2_st (wx.heap.size + 1) D' dn dc b.done (some ⟨wx.heap.size, 0, none⟩) 1 1 [m] _ HBL.out HD2.out HR1.out (by omega)).mono ?_; rintro e w3 ⟨v3, rfl, s3⟩; have HS3 := Lib.hid ((HS2.out.call s3).pick [2] (by decide) rfl rfl); clear s3 HS2 HBL HR1 HD2 q0 q1; go_wp2; exact bodyPost_ret (v := .tuple #[v3, .bool true]) (by simp [results, Tryz.results110, go_sem]) rfl (GivesD.yes HY.out HS3.out)
 by_cases h1 : k = 1
 ·subst h1; clear h0
  by_cases hm1 : 1 ≤ m
  case neg =>
   have HN : Bx (doneAfter b ⟨1, m⟩ = none) := Bx.mk (by rw [done1, if_neg (by omega)]); have hm1' : m < 1 := by omega
   go_enter Tryz.func110, Tryz.ntmps110; go_wp2; exact bodyPost_ret (v := .tuple #[.slice none 0 0, .bool false]) (by simp [results, Tryz.results110, go_sem]) rfl (GivesD.no HN.out HS0.out.below)
  have hm1' : ¬ m < 1 := by omega
  by_cases hm2 : m ≤ dn
  case neg =>
   have HN : Bx (doneAfter b ⟨1, m⟩ = none) := Bx.mk (by rw [done1, if_neg (by rw [HDL.out]; omega)]); have hm2' : (dn : Int) < m := by omega
   go_enter Tryz.func110, Tryz.ntmps110; go_wp2; exact bodyPost_ret (v := .tuple #[.slice none 0 0, .bool false]) (by simp [results, Tryz.results110, go_sem]) rfl (GivesD.no HN.out HS0.out.below)
  have hm2' : ¬ (dn : Int) < m := by omega
  obtain ⟨mm, rfl⟩ := Int.eq_ofNat_of_zero_le (show 0 ≤ m by omega); have HY : Bx (doneAfter b ⟨1, (mm : Int)⟩ = some (b.done.take (dn - mm))) := Bx.mk (by rw [done1, if_pos (by rw [HDL.out]; omega), HDL.out, Int.toNat_natCast]); obtain ⟨bb, off, x, rfl, -⟩ := HD.out.get (show 0 < dn by omega); have hk1 : dn - mm ≤ dn := by omega
  have hk2 : dn - mm ≤ dc := by omega
  obtain ⟨r, hr⟩ : ∃ r, dn - mm = r := ⟨_, rfl⟩; have hri : (dn : Int) - (mm : Int) = (r : Int) := by omega
  rw [hr] at HY hk1 hk2; have hrc : (r : Int) ≤ (dc : Int) := by omega
  go_enter Tryz.func110, Tryz.ntmps110
  go_wp2_with fail
  refine (clone_any (some ⟨bb, off, none⟩) r dc (b.done.take r) _ ((rdI_prefix (HD.out.up HS0.out.below) r (by omega))) (by omega)).mono ?_; rintro e w3 ⟨v3, rfl, s3⟩; have HS3 := Lib.hid ((HS0.out.call s3).pick [2] (by decide) rfl rfl); clear s3; go_wp2; exact bodyPost_ret (v := .tuple #[v3, .bool true]) (by simp [results, Tryz.results110, go_sem]) rfl (GivesD.yes HY.out HS3.out)
 by_cases h2 : k = 2
 ·subst h2; clear h0 h1; obtain ⟨sh, hsh⟩ : ∃ x, (planShort b.order b.done).getD [] = x := ⟨_, rfl⟩; have HSH := Bx.mk hsh; have HSM : Bx ((planShort b.order b.done).isSome = true) := Bx.mk (by rw [planShort_ok HOKB.out]; rfl); obtain ⟨sl, hsl⟩ : ∃ x, sh.length = x := ⟨_, rfl⟩; have HSL := Bx.mk hsl
  have hsl40 : sl ≤ 40 := by
   rw [← hsl, ← hsh, planShort_ok HOKB.out]; exact Nat.le_trans (shortN_len ..) (by rw [HDL.out]; exact hd40)
  clear hsh hsl; go_enter Tryz.func110, Tryz.ntmps110
  go_wp2_with fail
  refine (planShort_impl _ b.order D' dn dc b.done _ (HO.out.up HS0.out.below) (HD.out.up HS0.out.below)).mono ?_; rw [HSH.out, HSM.out]; rintro e w3 ⟨v3, rfl, s3⟩; obtain ⟨A3, c3, hv3, -⟩ := s3.rdI 0 rfl; rw [HSL.out] at hv3; subst hv3; have HS3 := Lib.hid (HS0.out.call s3); have q1 := HS3.out.cells 1 rfl; clear s3
  by_cases hm0 : m = 0
  ·subst hm0
   by_cases hlt : sl < dn
   ·have HY : Bx (doneAfter b ⟨2, 0⟩ = some sh) := Bx.mk (by rw [done2, HSH.out, if_pos (by rw [HSL.out, HDL.out]; exact ⟨rfl, hlt⟩)]); have hlti : (sl : Int) < (dn : Int) := by omega
    go_wp2; exact bodyPost_ret (v := .tuple #[.slice A3 sl c3, .bool true]) (by simp [results, Tryz.results110, go_sem]) rfl (GivesD.yes HY.out (HS3.out.pick [2] (by decide) rfl rfl))
   ·have HN : Bx (doneAfter b ⟨2, 0⟩ = none) := Bx.mk (by rw [done2, HSH.out, if_neg (by rw [HSL.out, HDL.out]; omega)]); have hlti : ¬ (sl : Int) < (dn : Int) := by omega
    go_wp2; exact bodyPost_ret (v := .tuple #[.slice A3 sl c3, .bool false]) (by simp [results, Tryz.results110, go_sem]) rfl (GivesD.no' HN.out (HS3.out.pick [2] (by decide) rfl rfl))
  ·have HN : Bx (doneAfter b ⟨2, m⟩ = none) := Bx.mk (by rw [done2, if_neg (by omega)]); have hm0' : (m == 0) = false := by simpa using hm0
   clear hm0; go_wp2; exact bodyPost_ret (v := .tuple #[.slice A3 sl c3, .bool false]) (by simp [results, Tryz.results110, go_sem]) rfl (GivesD.no' HN.out (HS3.out.pick [2] (by decide) rfl rfl))
 by_cases h3 : k = 3
 ·subst h3; clear h0 h1 h2; obtain ⟨rr, hrr⟩ : ∃ x, restFor b = x := ⟨_, rfl⟩; have HRR := Bx.mk hrr; go_enter Tryz.func110, Tryz.ntmps110
  go_wp2_with fail
  refine (restFor_impl _ b _ (HBK.out.up HS0.out.below)).mono ?_; rw [HRR.out]; rintro e w3 ⟨v3, rfl, s3⟩; have HS3 := Lib.hid (HS0.out.call s3); have q0 := HS3.out.cells 0 rfl; have q1 := HS3.out.cells 1 rfl
  cases rr with
  | none =>
   have HN : Bx (doneAfter b ⟨3, m⟩ = none) := Bx.mk (by rw [done3, hrr, if_neg (by simp)]); clear hrr s3; simp only [Option.isSome_none, Option.getD_none] at *; go_wp2; exact bodyPost_ret (v := .tuple #[.slice none 0 0, .bool false]) (by simp [results, Tryz.results110, go_sem]) rfl (GivesD.no HN.out HS3.out.below)
  | some rest =>
   obtain ⟨rl, hrl⟩ : ∃ x, rest.length = x := ⟨_, rfl⟩; have HRL := Bx.mk hrl; have hrl31 : rl ≤ 31 := by rw [← hrl]; exact (restFor_run hrr).2.1
   simp only [Option.isSome_some, Option.getD_some] at *; obtain ⟨A3, c3, hv3, -⟩ := s3.rdI 0 rfl; rw [hrl] at hv3; subst hv3; have HNf : ¬ (m = 0 ∧ 0 < rl ∧ dn + rl ≤ 40) → doneAfter b ⟨3, m⟩ = none := fun h => by rw [done3, hrr, Option.getD_some, hrl, HDL.out, if_neg h]
   have HYf : (m = 0 ∧ 0 < rl ∧ dn + rl ≤ 40) → doneAfter b ⟨3, m⟩ = some (b.done ++ rest) := fun h => by rw [done3, hrr, Option.getD_some, hrl, HDL.out, if_pos h]
   clear hrr s3 hrl
   by_cases hm0 : m = 0
   case neg =>
    have HN := Bx.mk (HNf (fun h => hm0 h.1)); have hm0' : (m == 0) = false := by simpa using hm0
    have hm0'' : (m != 0) = true := by simpa using hm0
    clear hm0 HYf HNf; go_wp2; exact bodyPost_ret (v := .tuple #[.slice none 0 0, .bool false]) (by simp [results, Tryz.results110, go_sem]) rfl (GivesD.no HN.out HS3.out.below)
   subst hm0
   by_cases hr0 : rl = 0
   case pos =>
    have HN := Bx.mk (HNf (fun h => by omega)); subst hr0; clear HYf HNf; go_wp2; exact bodyPost_ret (v := .tuple #[.slice none 0 0, .bool false]) (by simp [results, Tryz.results110, go_sem]) rfl (GivesD.no HN.out HS3.out.below)
   have hr0' : ((rl : Int) == 0) = false := by simp; exact hr0
   have hr0i : (0 : Int) < (rl : Int) := by omega
   by_cases hfar : dn + rl ≤ 40
   case neg =>
    have HN := Bx.mk (HNf (fun h => by omega)); have hfari : (40 : Int) < (dn : Int) + (rl : Int) := by omega
    clear HYf HNf; go_wp2; exact bodyPost_ret (v := .tuple #[.slice none 0 0, .bool false]) (by simp [results, Tryz.results110, go_sem]) rfl (GivesD.no HN.out HS3.out.below)
   have HY := Bx.mk (HYf ⟨rfl, by omega, hfar⟩); have hfari : ¬ (40 : Int) < (dn : Int) + (rl : Int) := by omega
   clear HNf HYf hr0; have S4 := HS3.out.alloc #[.slice D' dn dc, .slice A3 rl c3] 23; have HBL := Lib.hid (S4.blk 3 (g := w3.heap.size) rfl); have HR1 := Lib.hid (S4.rdI' 2 rfl); have HD2 := Lib.hid (HD.out.up S4.below); have HS4 := Lib.hid (S4.pick [0, 1] (by decide) rfl rfl); clear S4
   go_wp2_with fail
   refine (concat2_st w3.heap.size D' dn dc b.done A3 rl c3 rest _ HBL.out HD2.out HR1.out (by omega)).mono ?_; rintro e w5 ⟨v5, rfl, s5⟩; have HS5 := Lib.hid ((HS4.out.call s5).pick [2] (by decide) rfl rfl); clear s5 q0 q1; go_wp2; exact bodyPost_ret (v := .tuple #[v5, .bool true]) (by simp [results, Tryz.results110, go_sem]) rfl (GivesD.yes HY.out HS5.out)
 have HN := Bx.mk (done4 (b := b) (m := m) h0 h1 h2 h3); have h0' : (k == 0) = false := by simpa using h0
 have h1' : (k == 1) = false := by simpa using h1
 have h2' : (k == 2) = false := by simpa using h2
 have h3' : (k == 3) = false := by simpa using h3
 clear h0 h1 h2 h3; go_enter Tryz.func110, Tryz.ntmps110; go_wp2; exact bodyPost_ret (v := .tuple #[.slice none 0 0, .bool false]) (by simp [results, Tryz.results110, go_sem]) rfl (GivesD.no HN.out HS0.out.below)
end Go.Proofs.YtkmcengmglgdeaaGreatDoor
