/- Joined texts: Draws, StatesBack, Iso. -/
import Derived.Test.YtdbgoekemffimaaJFnOnWayTDraw2
import Derived.Test.YtdbgoekemffimaaJFnOnWaySteps
import Derived.Test.YtdbgoekemffimaaJFnOnWaySearch

/- l20Open within a list of things; the draws that only draw a task. -/
namespace Go.Proofs.Ytdbgoekemffimaa
set_option linter.unusedVariables false
open Go.ChangeShapes Go.WideShapes Go.ChangeAt Go.RowKit

theorem l20Open_rd {w W : World} {L : List HRes} (S : St w W L) {A : Option Addr} {n c : Nat} {xs : List Int} (h : RdI .u8 w w.heap.size A n c xs) :
    Calls Try.prog 49 #[.slice A n c] W fun e w' => ∃ g, e = .returned (.pointer (some ⟨g, 0, none⟩)) ∧ St w w' (rRd w g 0 :: L) := by
  have hn := h.cap
  have hm := h.capMax
  unfold maxLen at hm
  by_cases hb : 2000 < n
  · have HS : Hid (St w (W.alloc (.cells #[.slice A 2000 c, .int .i64 0] 97)) (rRd w W.heap.size 0 :: L)) := Lib.hid ((S.allocF #[.slice A 2000 c, .int .i64 0] 97).see fun F ⟨h1, h2⟩ _ => ⟨h2, 0, A, 2000, c, _, Nat.le_refl _, Nat.le_refl _, rdI_prefix h 2000 (by omega), h1⟩)
    clear S
    go_enter Try.func49, Try.ntmps49
    go_wp2
    go_ret
    exact ⟨_, rfl, HS.out⟩
  · have HS : Hid (St w (W.alloc (.cells #[.slice A n c, .int .i64 0] 97)) (rRd w W.heap.size 0 :: L)) := Lib.hid ((S.allocF #[.slice A n c, .int .i64 0] 97).see fun F ⟨h1, h2⟩ _ => ⟨h2, 0, A, n, c, _, Nat.le_refl _, by omega, h, h1⟩)
    clear S
    go_enter Try.func49, Try.ntmps49
    go_wp2
    go_ret
    exact ⟨_, rfl, HS.out⟩
/-- what a draw of a task gives -/
def GivesT (w : World) (e : Ending) (w' : World) : Prop := ∃ v t, e = .returned v ∧ TaskSm t ∧ St w w' [rTask v t]
theorem drawOnWay (A : Option Addr) (n c : Nat) (xs : List Int) (w : World) (h : RdI .u8 w w.heap.size A n c xs) : Calls Try.prog 15 #[.slice A n c] w (GivesT w) := by
  have HS0 := Lib.hid ((St.refl w).alloc #[.int .i64 0, .slice none 0 0, .slice none 0 0] 26)
  have H := Lib.hid h
  clear h
  go_enter Try.func15, Try.ntmps15
  go_wp2_with fail
  refine (l20Open_rd HS0.out H.out).mono ?_
  rintro e w1 ⟨g, rfl, s1⟩
  have HS1 := Lib.hid s1
  clear s1 HS0
  go_wp2_with fail
  refine (l20Task_rd HS1.out (by omega) 9).mono ?_
  rintro e w2 ⟨v2, t, rfl, ht, s2⟩
  obtain ⟨A1, n1, c1, A2, n2, c2, hv⟩ := s2.formT 1 rfl
  subst hv
  have q2 : ∀ j, w2.cell? ⟨w.heap.size, j, none⟩ = _ := s2.cells 2 rfl
  have f2 := s2.free 2 rfl
  have HT := Lib.hid ht
  have HS2 := Lib.hid (((s2.set3 2 rfl (.int .i64 t.start) (.slice A1 n1 c1) (.slice A2 n2 c2)).tl).rid 1 rfl)
  clear s2 ht HS1
  go_wp2
  refine bodyPost_ret (v := .agg #[.int .i64 t.start, .slice A1 n1 c1, .slice A2 n2 c2]) (by simp [results, Try.results15, go_sem, q2]) rfl ⟨_, t, rfl, HT.out, HS2.out⟩
theorem drawPlansMany (A : Option Addr) (n c : Nat) (xs : List Int) (w : World) (h : RdI .u8 w w.heap.size A n c xs) : Calls Try.prog 9 #[.slice A n c] w (GivesT w) := by
  have HS0 := Lib.hid ((St.refl w).alloc #[.int .i64 0, .slice none 0 0, .slice none 0 0] 26)
  have H := Lib.hid h
  clear h
  go_enter Try.func9, Try.ntmps9
  go_wp2_with fail
  refine (l20Open_rd HS0.out H.out).mono ?_
  rintro e w1 ⟨g, rfl, s1⟩
  have HS1 := Lib.hid s1
  clear s1 HS0
  go_wp2_with fail
  refine (l20Task_rd HS1.out (by omega) 9).mono ?_
  rintro e w2 ⟨v2, t, rfl, ht, s2⟩
  obtain ⟨A1, n1, c1, A2, n2, c2, hv⟩ := s2.formT 1 rfl
  subst hv
  have q2 : ∀ j, w2.cell? ⟨w.heap.size, j, none⟩ = _ := s2.cells 2 rfl
  have f2 := s2.free 2 rfl
  have HT := Lib.hid ht
  have HS2 := Lib.hid (((s2.set3 2 rfl (.int .i64 t.start) (.slice A1 n1 c1) (.slice A2 n2 c2)).tl).rid 1 rfl)
  clear s2 ht HS1
  go_wp2
  refine bodyPost_ret (v := .agg #[.int .i64 t.start, .slice A1 n1 c1, .slice A2 n2 c2]) (by simp [results, Try.results9, go_sem, q2]) rfl ⟨_, t, rfl, HT.out, HS2.out⟩
end Go.Proofs.Ytdbgoekemffimaa

/- StatesBack of the reference, for valid arguments. -/
namespace Go.Proofs.Ytdbgoekemffimaa
set_option linter.unusedVariables false
open Go.ChangeShapes Go.WideShapes Go.ChangeAt Go.RowKit

def outP (ds : List DeedD) (S m k s : Nat) : Bool := upto (backP ds (setP S)) m s || (decide (s = m) && backP (ds.take k) (setP S) m)
theorem outP_zero (ds : List DeedD) (S m : Nat) : mset (outP ds S m 0) 32 = mset (upto (backP ds (setP S)) m) 32 := mset_congr fun s _ => by simp [outP, backP]
theorem backP_take (ds : List DeedD) (S m k : Nat) (d : DeedD) (h : ds[k]? = some d) : backP (ds.take (k + 1)) (setP S) m = (backP (ds.take k) (setP S) m || hitD d S m) := by
  rw [take_succ' h]
  simp [backP, hitD]
theorem outP_no (ds : List DeedD) (S m k : Nat) (d : DeedD) (h : ds[k]? = some d) (hh : hitD d S m = false) : mset (outP ds S m (k + 1)) 32 = mset (outP ds S m k) 32 := mset_congr fun s _ => by
  unfold outP
  rw [backP_take ds S m k d h, hh, Bool.or_false]
theorem outP_yes (ds : List DeedD) (S m k : Nat) (d : DeedD) (h : ds[k]? = some d) (hh : hitD d S m = true) : ∀ s, s < 32 → outP ds S m (k + 1) s = (outP ds S m k s || decide (m = s)) := fun s _ => by
  unfold outP
  rw [backP_take ds S m k d h, hh, Bool.or_true, Bool.and_true]
  by_cases e : s = m
  · subst e; simp
  · simp [e, Ne.symm e]
theorem outP_all (ds : List DeedD) (S m k : Nat) (hk : ds.length ≤ k) : mset (outP ds S m k) 32 = mset (upto (backP ds (setP S)) (m + 1)) 32 := mset_congr fun s _ => by
  unfold outP upto
  rw [List.take_of_length_le hk]
  by_cases e : s = m
  · subst e; simp
  · simp [e, show (s < m + 1) ↔ (s < m) by omega]
theorem either_member {p q : Nat → Bool} {M k : Nat} (hk : k < 32) (hM : M = mset p 32) (hq : ∀ j, j < 32 → q j = (p j || decide (k = j))) : (((M : Int).toNat ||| ((2 : Int) ^ k).toNat : Nat) : Int) = ((mset q 32 : Nat) : Int) := by
  have e : ((2 : Int) ^ k) = ((2 ^ k : Nat) : Int) := by push_cast; rfl
  rw [e, Int.toNat_natCast, Int.toNat_natCast, hM, mset_or_bit _ _ _ hk, mset_congr hq]
theorem pow_int_lt {k : Nat} (h : k < 32) : (0 : Int) ≤ 2 ^ k ∧ (2 : Int) ^ k < 4294967296 := by
  have e : ((2 : Int) ^ k) = ((2 ^ k : Nat) : Int) := by push_cast; rfl
  have h1 := pow32_lt h
  rw [e]
  generalize 2 ^ k = N at h1
  omega
set_option maxRecDepth 100000 in
set_option maxHeartbeats 1000000 in
theorem statesBack_spec (v : Value) (t : TaskD) (S : Nat) (w : World) (h : RdT w w.heap.size v t) (hok : taskOk t = true) (hS : S < 4294967296) :
    Calls Try.prog 110 #[v, .int .i64 S] w fun e w' => e = .returned (.int .i64 (mset (backP t.deeds (setP S)) 32 : Nat)) ∧ Below w.heap.size w w' := by
  have h' := h
  obtain ⟨G, gn, gc, G', n', c', rfl, hg, hgs, hds, hst⟩ := h
  have S0 := (St.refl w).alloc #[.int .i64 t.start, .slice G gn gc, .slice G' n' c'] 26
  have HT := Lib.hid (h'.up S0.below)
  have HS0 := Lib.hid S0
  have HOK := Lib.hid hok
  have HDL := Lib.hid hds.len
  have HDS := Lib.hid hds
  obtain ⟨-, -, hn6, hdok⟩ := taskOk_parts t hok
  have HDOK := Lib.hid hdok
  have hn6' : n' ≤ 6 := by rw [← hds.len]; exact hn6
  obtain ⟨B, hB⟩ : ∃ B, mset (backP t.deeds (setP S)) 32 = B := ⟨_, rfl⟩
  have HB := Bx.mk hB
  rw [hB]
  clear S0 h' hok hds hn6 hdok hB hg
  go_enter Try.func110, Try.ntmps110
  go_wp2_with fail
  refine (taskValid_spec _ t _ HT.out).mono ?_
  rw [HOK.out]
  rintro e w1 ⟨rfl, hb1⟩
  have HS1 := Lib.hid (HS0.out.quiet hb1)
  clear hb1
  go_wp2_with fail
  refine (l1In_yes (S : Int) 0 4294967295 _ (by omega) (by omega)).mono ?_
  rintro e w2 ⟨rfl, rfl⟩
  go_wp2
  go_loopw [6, 5] (fun i sv wr => ∃ m M : Nat, m ≤ 32 ∧ i = .int .i64 m ∧ sv = .int .i64 M ∧ Bx (M = mset (upto (backP t.deeds (setP S)) m) 32) ∧ St w wr [rBlk w.heap.size 26 #[.int .i64 t.start, .slice G gn gc, .slice G' n' c']]) (fun i _ _ => 32 - (intOf i).toNat)
  case atStart => exact ⟨0, 0, by omega, rfl, rfl, Bx.mk (mset_upto0 _ _).symm, HS1.out⟩
  case round =>
    obtain ⟨m, M, hm, rfl, rfl, HM, MM⟩ := hrel
    have HMM := Lib.hid MM
    clear MM
    by_cases hlt : m < 32
    · have HM0 : Bx (M = mset (outP t.deeds S m 0) 32) := Bx.mk (HM.out.trans (outP_zero _ _ _).symm)
      clear HM
      go_wp2
      try generalize decide ((m : Int) < 32) = dm
      go_loopw [7, 5] (fun i sv wr => ∃ k M : Nat, k ≤ n' ∧ i = .int .i64 k ∧ sv = .int .i64 M ∧ Bx (M = mset (outP t.deeds S m k) 32) ∧ St w wr [rBlk w.heap.size 26 #[.int .i64 t.start, .slice G gn gc, .slice G' n' c']]) (fun i _ _ => n' - (intOf i).toNat)
      case atStart => exact ⟨0, M, by omega, rfl, rfl, HM0, HMM.out⟩
      case round =>
        clear HM0 HMM
        obtain ⟨k, M1, hk, rfl, rfl, HM, MM⟩ := hrel
        have q0 : ∀ j, wr.cell? ⟨w.heap.size, j, none⟩ = _ := MM.cells 0 rfl
        have HMM := Lib.hid MM
        clear MM
        by_cases hkn : k < n'
        · obtain ⟨b, off, d, rfl, hb, hd, hda⟩ := HDS.out.get hkn
          obtain ⟨An, nn, cn, p0, p1, p2, p3, hneed, hnn, -⟩ := hda
          have r0 : wr.cell? ⟨b, off + k * 4, none⟩ = some (.slice An nn cn) := (bcells HMM.out.below b _ hb).trans p0
          have r1 : wr.cell? ⟨b, off + k * 4 + 1, none⟩ = some (.int .i64 d.on) := (bcells HMM.out.below b _ hb).trans p1
          have r2 : wr.cell? ⟨b, off + k * 4 + 2, none⟩ = some (.int .i64 d.off) := (bcells HMM.out.below b _ hb).trans p2
          have r3 : wr.cell? ⟨b, off + k * 4 + 3, none⟩ = some (.int .i64 d.flip) := (bcells HMM.out.below b _ hb).trans p3
          have HDK := Lib.hid (HDOK.out d (List.mem_of_getElem? hd))
          have HD0 := Lib.hid hd
          have HND := Lib.hid hneed
          obtain ⟨o, ho⟩ : ∃ o, deedDo d m = o := ⟨_, rfl⟩
          have HO := Lib.hid ho
          clear p0 p1 p2 p3 hneed hd ho
          go_wp2_with fail
          refine (l6Do_any An nn cn d m _ (HND.out.up HMM.out.below) HDK.out hlt).mono ?_
          rw [HO.out]
          rintro e w3 ⟨rfl, hb3⟩
          have HM3 := Lib.hid (HMM.out.quiet hb3)
          clear hb3 q0 r0 r1 r2 r3
          cases o with
          | none =>
            have HM2 : Bx (M1 = mset (outP t.deeds S m (k + 1)) 32) := Bx.mk (HM.out.trans (outP_no _ _ _ _ d HD0.out (hitD_none d S m HO.out)).symm)
            simp only [opt]
            go_wp2
            go_roundw
            case rel => exact ⟨k + 1, M1, by omega, by go_num, rfl, HM2, HM3.out⟩
            case measure => simp [intOf]; omega
          | some q =>
            have hq := deedDo_lt d m q HDK.out hlt HO.out
            simp only [opt]
            go_wp2_with fail
            refine (l1Bit_nat S q (by omega) _).mono ?_
            rintro e w4 ⟨rfl, rfl⟩
            by_cases hs1 : bit S q = 1
            · have hpw := wrap_pow m (by omega)
              obtain ⟨hp0, hp1⟩ := pow_int_lt hlt
              obtain ⟨M2, hM2⟩ : ∃ M2, mset (outP t.deeds S m (k + 1)) 32 = M2 := ⟨_, rfl⟩
              have HOR : Bx ((((M1 : Int).toNat ||| ((2 : Int) ^ m).toNat : Nat) : Int) = (M2 : Int)) := Bx.mk (by
                rw [← hM2]
                exact either_member hlt HM.out (outP_yes t.deeds S m k d HD0.out (by rw [hitD_some d S m q HO.out, hs1]; rfl)))
              have HM2 := Bx.mk hM2.symm
              have hM1 : M1 < 4294967296 := by rw [HM.out]; exact mset32_lt _
              rw [hs1]
              clear hs1 hM2
              go_wp2_with fail
              refine (l1Either_any (M1 : Int) (2 ^ m) (by omega) (by omega) (by omega) (by omega) _).mono ?_
              rw [HOR.out]
              rintro e w5 ⟨rfl, rfl⟩
              clear hp0 hp1 hM1 hpw
              go_wp2
              go_roundw
              case rel => exact ⟨k + 1, M2, by omega, by go_num, rfl, HM2, HM3.out⟩
              case measure => simp [intOf]; omega
            · have hs0 : bit S q = 0 := by have := bit_lt S q; omega
              have HM2 : Bx (M1 = mset (outP t.deeds S m (k + 1)) 32) := Bx.mk (HM.out.trans (outP_no _ _ _ _ d HD0.out (by rw [hitD_some d S m q HO.out, hs0]; rfl)).symm)
              rw [hs0]
              clear hs1 hs0
              go_wp2
              go_roundw
              case rel => exact ⟨k + 1, M1, by omega, by go_num, rfl, HM2, HM3.out⟩
              case measure => simp [intOf]; omega
        · have HM2 : Bx (M1 = mset (upto (backP t.deeds (setP S)) (m + 1)) 32) := Bx.mk (HM.out.trans (outP_all _ _ _ _ (by rw [HDL.out]; omega)))
          go_wp2
          go_roundw
          case rel => exact ⟨m + 1, M1, by omega, by go_num, rfl, HM2, HMM.out⟩
          case measure => simp [intOf]; omega
    · have HF : Bx (M = B) := Bx.mk (by rw [HM.out, show m = 32 by omega, mset_uptoN, HB.out])
      go_wp2
      go_ret
      exact ⟨ret_int (by rw [HF.out]), HMM.out.below⟩
end Go.Proofs.Ytdbgoekemffimaa

/- Plain law: two tasks whose states answer each other one to one: the same steps, plans and numbers of ways; no program in sight. -/
namespace Go.Proofs.Ytdbgoekemffimaa
set_option linter.unusedVariables false

/-- in how many ways n deeds lead from s into S -/
def waysN (ds : List DeedD) (S : Nat → Bool) : Nat → Nat → Int
  | 0, s => if S s then 1 else 0
  | n + 1, s => (ds.map fun d => match deedDo d s with
    | some s' => waysN ds S n s'
    | none => 0).sum
structure Iso (ds : List DeedD) (g : DeedD → DeedD) (f : Nat → Nat) : Prop where
  lt : ∀ s, s < 32 → f s < 32
  do_ : ∀ d ∈ ds, ∀ s, s < 32 → deedDo (g d) (f s) = (deedDo d s).map f
section
variable {ds : List DeedD} {g : DeedD → DeedD} {f : Nat → Nat} {S T : Nat → Bool}
theorem Iso.tl {d : DeedD} (h : Iso (d :: ds) g f) : Iso ds g f := ⟨h.lt, fun e he => h.do_ e (List.mem_cons_of_mem _ he)⟩
theorem Iso.back (h : Iso ds g f) (hd : ∀ d ∈ ds, deedOk d = true) (hT : ∀ s, s < 32 → T (f s) = S s) {s : Nat} (hs : s < 32) : backP (ds.map g) T (f s) = backP ds S s := by
  unfold backP
  induction ds with
  | nil => rfl
  | cons d ds ih =>
    simp only [List.map_cons, List.any_cons]
    rw [ih h.tl (fun e he => hd e (List.mem_cons_of_mem _ he)), h.do_ d (List.mem_cons_self ..) s hs]
    congr 1
    cases e : deedDo d s with
    | none => rfl
    | some s' => simp only [Option.map_some, Option.any_some]; exact hT s' (deedDo_lt d s s' (hd d (List.mem_cons_self ..)) hs e)
theorem Iso.layer (h : Iso ds g f) (hd : ∀ d ∈ ds, deedOk d = true) (hT : ∀ s, s < 32 → T (f s) = S s) (n : Nat) : ∀ s, s < 32 → layer (ds.map g) T n (f s) = Go.Proofs.Ytdbgoekemffimaa.layer ds S n s := by
  induction n with
  | zero => intro s hs; exact hT s hs
  | succ n ih => intro s hs; simp only [Go.Proofs.Ytdbgoekemffimaa.layer]; rw [ih s hs, h.back hd ih hs]
theorem Iso.stp (h : Iso ds g f) (hd : ∀ d ∈ ds, deedOk d = true) (hT : ∀ s, s < 32 → T (f s) = S s) (n : Nat) : ∀ s, s < 32 → stpN (ds.map g) T n (f s) = stpN ds S n s := by
  induction n with
  | zero => intro s hs; simp only [stpN]; rw [hT s hs]
  | succ n ih =>
    intro s hs
    simp only [stpN]
    rw [h.layer hd hT n s hs, ih s hs, h.back hd (h.layer hd hT n) hs]
theorem Iso.stpV (h : Iso ds g f) (hd : ∀ d ∈ ds, deedOk d = true) (hT : ∀ s, s < 32 → T (f s) = S s) {s : Nat} (hs : s < 32) : stpV (ds.map g) T (f s) = Go.Proofs.Ytdbgoekemffimaa.stpV ds S s := h.stp hd hT 32 s hs
theorem Iso.pick {p q : Nat → Bool} (h : Iso ds g f) (hd : ∀ d ∈ ds, deedOk d = true) (hq : ∀ s, s < 32 → q (f s) = p s) {s : Nat} (hs : s < 32) (k : Nat) : pick q (f s) (ds.map g) k = (Go.Proofs.Ytdbgoekemffimaa.pick p s ds k).map fun r => (r.1, f r.2) := by
  induction ds generalizing k with
  | nil => rfl
  | cons d ds ih =>
    have hr := ih h.tl (fun e he => hd e (List.mem_cons_of_mem _ he)) (k + 1)
    simp only [List.map_cons, Go.Proofs.Ytdbgoekemffimaa.pick]
    rw [h.do_ d (List.mem_cons_self ..) s hs]
    cases e : deedDo d s with
    | none => simpa using hr
    | some s' =>
      simp only [Option.map_some]
      rw [hq s' (deedDo_lt d s s' (hd d (List.mem_cons_self ..)) hs e)]
      cases p s' with
      | true => rfl
      | false => simpa using hr
theorem pick_mem {p : Nat → Bool} {s : Nat} {k j s' : Nat} (h : pick p s ds k = some (j, s')) : ∃ d ∈ ds, deedDo d s = some s' ∧ p s' = true := by
  induction ds generalizing k with
  | nil => cases h
  | cons d ds ih =>
    simp only [pick] at h
    cases e : deedDo d s with
    | none =>
      rw [e] at h
      obtain ⟨x, hx, hr⟩ := ih h
      exact ⟨x, List.mem_cons_of_mem _ hx, hr⟩
    | some s1 =>
      rw [e] at h
      simp only at h
      split at h
      · rename_i hp
        simp only [Option.some.injEq, Prod.mk.injEq] at h
        exact ⟨d, List.mem_cons_self .., by rw [e, h.2], h.2 ▸ hp⟩
      · obtain ⟨x, hx, hr⟩ := ih h
        exact ⟨x, List.mem_cons_of_mem _ hx, hr⟩
theorem Iso.walkP (h : Iso ds g f) (hd : ∀ d ∈ ds, deedOk d = true) (hT : ∀ s, s < 32 → T (f s) = S s) (n : Nat) : ∀ s, s < 32 → walkP (ds.map g) T n (f s) = Go.Proofs.Ytdbgoekemffimaa.walkP ds S n s := by
  induction n with
  | zero => intro s hs; rfl
  | succ n ih =>
    intro s hs
    simp only [Go.Proofs.Ytdbgoekemffimaa.walkP]
    rw [h.pick (p := fun s' => Go.Proofs.Ytdbgoekemffimaa.stpV ds S s' == (n : Int)) hd (fun s hs => by rw [h.stpV hd hT hs]) hs 0]
    cases e : Go.Proofs.Ytdbgoekemffimaa.pick (fun s' => Go.Proofs.Ytdbgoekemffimaa.stpV ds S s' == (n : Int)) s ds 0 with
    | none => rfl
    | some r =>
      obtain ⟨j, s'⟩ := r
      obtain ⟨d, hm, h1, -⟩ := pick_mem e
      simp only [Option.map_some]
      rw [ih s' (deedDo_lt d s s' (hd d hm) hs h1)]
theorem Iso.planOf (h : Iso ds g f) (hd : ∀ d ∈ ds, deedOk d = true) (hT : ∀ s, s < 32 → T (f s) = S s) {s : Nat} (hs : s < 32) : planOf (ds.map g) T (f s) = Go.Proofs.Ytdbgoekemffimaa.planOf ds S s := by
  unfold Go.Proofs.Ytdbgoekemffimaa.planOf
  rw [h.stpV hd hT hs, h.walkP hd hT _ s hs]
theorem Iso.waysN (h : Iso ds g f) (hd : ∀ d ∈ ds, deedOk d = true) (hT : ∀ s, s < 32 → T (f s) = S s) (n : Nat) : ∀ s, s < 32 → waysN (ds.map g) T n (f s) = Go.Proofs.Ytdbgoekemffimaa.waysN ds S n s := by
  induction n with
  | zero => intro s hs; simp only [Go.Proofs.Ytdbgoekemffimaa.waysN]; rw [hT s hs]
  | succ n ih =>
    intro s hs
    simp only [Go.Proofs.Ytdbgoekemffimaa.waysN, List.map_map]
    congr 1
    refine List.map_congr_left fun d hm => ?_
    simp only [Function.comp]
    rw [h.do_ d hm s hs]
    cases e : deedDo d s with
    | none => rfl
    | some s' => simp only [Option.map_some]; exact ih s' (deedDo_lt d s s' (hd d hm) hs e)
end
/-! ### forward -/
/-- what is reached from s0 by at most n deeds -/
def fwdP (ds : List DeedD) (S : Nat → Bool) (s : Nat) : Bool := (List.range 32).any fun s' => S s' && ds.any fun d => deedDo d s' == some s
def fwd (ds : List DeedD) (S : Nat → Bool) : Nat → Nat → Bool
  | 0, s => S s
  | n + 1, s => fwd ds S n s || fwdP ds (fwd ds S n) s
section
variable {ds : List DeedD} {g : DeedD → DeedD} {f : Nat → Nat} {S T : Nat → Bool}
theorem fwdP_iff {s : Nat} : fwdP ds S s = true ↔ ∃ s', s' < 32 ∧ S s' = true ∧ ∃ d ∈ ds, deedDo d s' = some s := by
  unfold fwdP
  simp only [List.any_eq_true, List.mem_range, Bool.and_eq_true, beq_iff_eq]
theorem Iso.fwdP (h : Iso ds g f) (hd : ∀ d ∈ ds, deedOk d = true) (hj : ∀ s t, s < 32 → t < 32 → f s = f t → s = t) (hsur : ∀ s, s < 32 → ∃ t, t < 32 ∧ f t = s) (hT : ∀ s, s < 32 → T (f s) = S s) {s : Nat} (hs : s < 32) : fwdP (ds.map g) T (f s) = Go.Proofs.Ytdbgoekemffimaa.fwdP ds S s := by
  rw [Bool.eq_iff_iff, fwdP_iff, fwdP_iff]
  constructor
  · rintro ⟨s', hs', hT', d', hd', e⟩
    obtain ⟨d, hm, rfl⟩ := List.mem_map.1 hd'
    obtain ⟨t, ht, rfl⟩ := hsur s' hs'
    rw [hT t ht] at hT'
    rw [h.do_ d hm t ht] at e
    obtain ⟨u, hu, e⟩ := Option.map_eq_some_iff.1 e
    have := hj u s (deedDo_lt d t u (hd d hm) ht hu) hs e
    subst this
    exact ⟨t, ht, hT', d, hm, hu⟩
  · rintro ⟨s', hs', hS', d, hm, e⟩
    exact ⟨f s', h.lt s' hs', by rw [hT s' hs']; exact hS', g d, List.mem_map.2 ⟨d, hm, rfl⟩, by rw [h.do_ d hm s' hs', e]; rfl⟩
theorem Iso.fwd (h : Iso ds g f) (hd : ∀ d ∈ ds, deedOk d = true) (hj : ∀ s t, s < 32 → t < 32 → f s = f t → s = t) (hsur : ∀ s, s < 32 → ∃ t, t < 32 ∧ f t = s) (hT : ∀ s, s < 32 → T (f s) = S s) (n : Nat) : ∀ s, s < 32 → fwd (ds.map g) T n (f s) = Go.Proofs.Ytdbgoekemffimaa.fwd ds S n s := by
  induction n with
  | zero => intro s hs; exact hT s hs
  | succ n ih => intro s hs; simp only [Go.Proofs.Ytdbgoekemffimaa.fwd]; rw [ih s hs, h.fwdP hd hj hsur ih hs]
end
end Go.Proofs.Ytdbgoekemffimaa
