/- Joined texts: StatesNext, Book. -/
import Derived.Test.YtdbgoekemffimaaJFnOnWay9
import Derived.Test.YtdbgoekemffimaaJFnOnWayStepsOn
import Derived.Test.YtdbgoekemffimaaJFnOnWay8

/- StatesNext of the reference, for valid arguments. -/
namespace Go.Proofs.Ytdbgoekemffimaa
set_option linter.unusedVariables false
open Go.ChangeShapes Go.WideShapes Go.ChangeAt Go.RowKit

/-- what the states below m lead to -/
def preF (ds : List DeedD) (S m s : Nat) : Bool := (List.range m).any fun s' => setP S s' && ds.any fun d => deedDo d s' == some s
def outF (ds : List DeedD) (S m k s : Nat) : Bool := preF ds S m s || (setP S m && (ds.take k).any fun d => deedDo d m == some s)
theorem preF_0 (ds : List DeedD) (S : Nat) : mset (preF ds S 0) 32 = 0 := mset_zero.2 fun s _ => by simp [preF]
theorem preF_all (ds : List DeedD) (S : Nat) : mset (preF ds S 32) 32 = mset (fwdP ds (setP S)) 32 := rfl
theorem preF_succ (ds : List DeedD) (S m s : Nat) : preF ds S (m + 1) s = (preF ds S m s || (setP S m && ds.any fun d => deedDo d m == some s)) := by
  unfold preF
  rw [List.range_succ, List.any_append]
  simp
theorem outF_zero (ds : List DeedD) (S m : Nat) : mset (outF ds S m 0) 32 = mset (preF ds S m) 32 := mset_congr fun s _ => by simp [outF]
theorem outF_all (ds : List DeedD) (S m k : Nat) (hk : ds.length ≤ k) : mset (outF ds S m k) 32 = mset (preF ds S (m + 1)) 32 := mset_congr fun s _ => by
  unfold outF; rw [preF_succ, List.take_of_length_le hk]
theorem outF_off (ds : List DeedD) (S m k : Nat) (h : setP S m = false) : mset (outF ds S m k) 32 = mset (preF ds S (m + 1)) 32 := mset_congr fun s _ => by
  unfold outF; rw [preF_succ, h]; rfl
theorem outF_no (ds : List DeedD) (S m k : Nat) (d : DeedD) (h : ds[k]? = some d) (hh : deedDo d m = none) : mset (outF ds S m (k + 1)) 32 = mset (outF ds S m k) 32 := mset_congr fun s _ => by
  unfold outF
  rw [take_succ' h, List.any_append]
  simp [hh]
theorem outF_yes (ds : List DeedD) (S m k q : Nat) (d : DeedD) (h : ds[k]? = some d) (hh : deedDo d m = some q) (hS : setP S m = true) : ∀ s, s < 32 → outF ds S m (k + 1) s = (outF ds S m k s || decide (q = s)) := fun s _ => by
  unfold outF
  have e : (some q == some s) = decide (q = s) := by rw [Bool.eq_iff_iff]; simp
  rw [take_succ' h, List.any_append, hS]
  simp only [List.any_cons, List.any_nil, Bool.or_false, hh, Bool.true_and, Bool.or_assoc, e]
set_option maxRecDepth 100000 in
set_option maxHeartbeats 1000000 in
theorem statesNext_spec (v : Value) (t : TaskD) (S : Nat) (w : World) (h : RdT w w.heap.size v t) (hok : taskOk t = true) (hS : S < 4294967296) :
    Calls Try.prog 116 #[v, .int .i64 S] w fun e w' => e = .returned (.int .i64 (mset (fwdP t.deeds (setP S)) 32 : Nat)) ∧ Below w.heap.size w w' := by
  have h' := h
  obtain ⟨G, gn, gc, G', n', c', rfl, hg, hgs, hds, hst⟩ := h
  have S0 := (St.refl w).alloc #[.int .i64 t.start, .slice G gn gc, .slice G' n' c'] 26
  have HT := Lib.hid (h'.up S0.below)
  have HS0 := Lib.hid S0
  have HOK := Lib.hid hok
  have HDL := Lib.hid hds.len
  have HDS := Lib.hid hds
  obtain ⟨-, -, hn6, hdok⟩ := taskOk_parts t hok
  have HDOK := Lib.hid hdok
  have hn6' : n' ≤ 6 := by rw [← hds.len]; exact hn6
  obtain ⟨B, hB⟩ : ∃ B, mset (fwdP t.deeds (setP S)) 32 = B := ⟨_, rfl⟩
  have HB := Bx.mk hB
  rw [hB]
  clear S0 h' hok hds hn6 hdok hB hg
  go_enter Try.func116, Try.ntmps116
  go_wp2_with fail
  refine (taskValid_spec _ t _ HT.out).mono ?_
  rw [HOK.out]
  rintro e w1 ⟨rfl, hb1⟩
  have HS1 := Lib.hid (HS0.out.quiet hb1)
  clear hb1
  go_wp2_with fail
  refine (l1In_yes (S : Int) 0 4294967295 _ (by omega) (by omega)).mono ?_
  rintro e w2 ⟨rfl, rfl⟩
  go_wp2
  go_loopw [6, 5] (fun i sv wr => ∃ m M : Nat, m ≤ 32 ∧ i = .int .i64 m ∧ sv = .int .i64 M ∧ Bx (M = mset (preF t.deeds S m) 32) ∧ St w wr [rBlk w.heap.size 26 #[.int .i64 t.start, .slice G gn gc, .slice G' n' c']]) (fun i _ _ => 32 - (intOf i).toNat)
  case atStart => exact ⟨0, 0, by omega, rfl, rfl, Bx.mk (preF_0 _ _).symm, HS1.out⟩
  case round =>
    obtain ⟨m, M, hm, rfl, rfl, HM, MM⟩ := hrel
    have HMM := Lib.hid MM
    clear MM
    by_cases hlt : m < 32
    · have HM0 : Bx (M = mset (outF t.deeds S m 0) 32) := Bx.mk (HM.out.trans (outF_zero _ _ _).symm)
      clear HM
      go_wp2
      try generalize decide ((m : Int) < 32) = dm
      go_loopw [7, 5] (fun i sv wr => ∃ k M : Nat, k ≤ n' ∧ i = .int .i64 k ∧ sv = .int .i64 M ∧ Bx (M = mset (outF t.deeds S m k) 32) ∧ St w wr [rBlk w.heap.size 26 #[.int .i64 t.start, .slice G gn gc, .slice G' n' c']]) (fun i _ _ => n' - (intOf i).toNat)
      case atStart => exact ⟨0, M, by omega, rfl, rfl, HM0, HMM.out⟩
      case round =>
        clear HM0 HMM
        obtain ⟨k, M1, hk, rfl, rfl, HM, MM⟩ := hrel
        have q0 : ∀ j, wr.cell? ⟨w.heap.size, j, none⟩ = _ := MM.cells 0 rfl
        have HMM := Lib.hid MM
        clear MM
        by_cases hkn : k < n'
        · by_cases hs1 : bit S m = 1
          case neg =>
            have hs0 : bit S m = 0 := by have := bit_lt S m; omega
            have HM2 : Bx (M1 = mset (preF t.deeds S (m + 1)) 32) := Bx.mk (HM.out.trans (outF_off _ _ _ _ (by unfold setP; rw [hs0]; rfl)))
            go_wp2_with fail
            refine (l1Bit_nat S m (by omega) _).mono ?_
            rw [hs0]
            rintro e w4 ⟨rfl, rfl⟩
            clear hs1 hs0
            go_wp2
            go_roundw
            case rel => exact ⟨m + 1, M1, by omega, by go_num, rfl, HM2, HMM.out⟩
            case measure => simp [intOf]; omega
          obtain ⟨b, off, d, rfl, hb, hd, hda⟩ := HDS.out.get hkn
          obtain ⟨An, nn, cn, p0, p1, p2, p3, hneed, hnn, -⟩ := hda
          have r0 : wr.cell? ⟨b, off + k * 4, none⟩ = some (.slice An nn cn) := (bcells HMM.out.below b _ hb).trans p0
          have r1 : wr.cell? ⟨b, off + k * 4 + 1, none⟩ = some (.int .i64 d.on) := (bcells HMM.out.below b _ hb).trans p1
          have r2 : wr.cell? ⟨b, off + k * 4 + 2, none⟩ = some (.int .i64 d.off) := (bcells HMM.out.below b _ hb).trans p2
          have r3 : wr.cell? ⟨b, off + k * 4 + 3, none⟩ = some (.int .i64 d.flip) := (bcells HMM.out.below b _ hb).trans p3
          have HDK := Lib.hid (HDOK.out d (List.mem_of_getElem? hd))
          have HD0 := Lib.hid hd
          have HND := Lib.hid hneed
          obtain ⟨o, ho⟩ : ∃ o, deedDo d m = o := ⟨_, rfl⟩
          have HO := Lib.hid ho
          have HSP : Bx (setP S m = true) := Bx.mk (by unfold setP; rw [hs1]; rfl)
          clear p0 p1 p2 p3 hneed hd ho
          go_wp2_with fail
          refine (l1Bit_nat S m (by omega) _).mono ?_
          rw [hs1]
          rintro e w4 ⟨rfl, rfl⟩
          clear hs1
          go_wp2_with fail
          refine (l6Do_any An nn cn d m _ (HND.out.up HMM.out.below) HDK.out hlt).mono ?_
          rw [HO.out]
          rintro e w3 ⟨rfl, hb3⟩
          have HM3 := Lib.hid (HMM.out.quiet hb3)
          clear hb3 q0 r0 r1 r2 r3
          cases o with
          | none =>
            have HM2 : Bx (M1 = mset (outF t.deeds S m (k + 1)) 32) := Bx.mk (HM.out.trans (outF_no _ _ _ _ d HD0.out HO.out).symm)
            simp only [opt]
            go_wp2
            go_roundw
            case rel => exact ⟨k + 1, M1, by omega, by go_num, rfl, HM2, HM3.out⟩
            case measure => simp [intOf]; omega
          | some q =>
            have hq := deedDo_lt d m q HDK.out hlt HO.out
            simp only [opt]
            have hpw := wrap_pow q (by omega)
            obtain ⟨hp0, hp1⟩ := pow_int_lt hq
            obtain ⟨M2, hM2⟩ : ∃ M2, mset (outF t.deeds S m (k + 1)) 32 = M2 := ⟨_, rfl⟩
            have HOR : Bx ((((M1 : Int).toNat ||| ((2 : Int) ^ q).toNat : Nat) : Int) = (M2 : Int)) := Bx.mk (by
              rw [← hM2]
              exact either_member hq HM.out (outF_yes t.deeds S m k q d HD0.out HO.out HSP.out))
            have HM2 := Bx.mk hM2.symm
            have hM1 : M1 < 4294967296 := by rw [HM.out]; exact mset32_lt _
            clear hM2
            go_wp2_with fail
            refine (l1Either_any (M1 : Int) (2 ^ q) (by omega) (by omega) (by omega) (by omega) _).mono ?_
            rw [HOR.out]
            rintro e w5 ⟨rfl, rfl⟩
            clear hp0 hp1 hM1 hpw
            go_wp2
            go_roundw
            case rel => exact ⟨k + 1, M2, by omega, by go_num, rfl, HM2, HM3.out⟩
            case measure => simp [intOf]; omega
        · have HM2 : Bx (M1 = mset (preF t.deeds S (m + 1)) 32) := Bx.mk (HM.out.trans (outF_all _ _ _ _ (by rw [HDL.out]; omega)))
          go_wp2
          go_roundw
          case rel => exact ⟨m + 1, M1, by omega, by go_num, rfl, HM2, HMM.out⟩
          case measure => simp [intOf]; omega
    · have HF : Bx (M = B) := Bx.mk (by rw [HM.out, show m = 32 by omega, preF_all, HB.out])
      go_wp2
      go_ret
      exact ⟨ret_int (by rw [HF.out]), HMM.out.below⟩
end Go.Proofs.Ytdbgoekemffimaa

/- Books in memory; the laws' helpers for books: toBook, eqBook, szBook, markBook, heldBook. -/
namespace Go.Proofs.Ytdbgoekemffimaa
set_option linter.unusedVariables false
open Go.ChangeShapes Go.WideShapes Go.ChangeAt Go.RowKit

/-- a book of its own -/
def OwnB (w : World) (v : Value) (b : BookD) (F : List Nat) : Prop :=
  ∃ gv dv ev Ft Fd, v = .agg #[.int .i64 b.order.start, gv, dv, ev, .int .i64 b.state] ∧ OwnT w 0 (.agg #[.int .i64 b.order.start, gv, dv]) b.order Ft ∧ OwnI w 0 ev b.done Fd ∧ b.done.length ≤ 1048576 ∧ (Lit.int .i64 b.state).wf = true ∧ F = Ft ++ Fd ∧ F.Nodup
def rBook (v : Value) (b : BookD) : HRes where
  at_ w F := OwnB w v b F
  keep w w' F h hk := by
    obtain ⟨gv, dv, ev, Ft, Fd, e, h1, h2, h3, h4, rfl, h5⟩ := h
    exact ⟨gv, dv, ev, Ft, Fd, e, h1.keep fun b hb => hk b (List.mem_append_left _ hb), h2.keep fun b hb => hk b (List.mem_append_right _ hb), h3, h4, rfl, h5⟩
  lt w F h b hb := by
    obtain ⟨gv, dv, ev, Ft, Fd, e, h1, h2, h3, h4, rfl, h5⟩ := h
    rcases List.mem_append.1 hb with hb | hb
    · exact (h1.lt b hb).2
    · exact (h2.lt b hb).2
  nd w F h := by obtain ⟨gv, dv, ev, Ft, Fd, e, h1, h2, h3, h4, rfl, h5⟩ := h; exact h5
def szB (b : BookD) : Nat := szT b.order + b.done.length
section
variable {w W W' : World} {L : List HRes}
/-- a task and a row of numbers as a book -/
theorem St.book {s st : Int} {gv dv ev : Value} {goal done : List Int} {ds : List DeedD} (h : St w W (rTask (.agg #[.int .i64 s, gv, dv]) ⟨s, goal, ds⟩ :: rInts ev done :: L)) (hd : done.length ≤ 1048576) (hs : (Lit.int .i64 st).wf = true) :
    St w W (rBook (.agg #[.int .i64 s, gv, dv, ev, .int .i64 st]) ⟨⟨s, goal, ds⟩, done, st⟩ :: L) :=
  h.join fun F G h1 h2 hn hlo => ⟨gv, dv, ev, F, G, rfl, h1.1, h2, hd, hs, rfl, hn⟩
theorem OwnB.rd {v : Value} {b : BookD} {F : List Nat} (h : OwnB W v b F) : RdB W W.heap.size v b := by
  obtain ⟨gv, dv, ev, Ft, Fd, rfl, h1, h2, h3, h4, rfl, h5⟩ := h
  obtain ⟨A, n, c, A', n', c', e, a1, a2, a3, a4⟩ := h1.rd
  obtain ⟨A2, c2, rfl, b1⟩ := h2.rd
  simp only [Value.agg.injEq, Array.mk.injEq, List.cons.injEq, and_true, true_and] at e
  obtain ⟨rfl, rfl⟩ := e
  exact ⟨A, n, c, A', n', c', A2, _, c2, rfl, a1, a2, a3, a4, b1, h3, h4⟩
theorem St.rdB (S : St w W L) (i : Nat) {v : Value} {b : BookD} (hi : L[i]? = some (rBook v b)) : RdB W W.heap.size v b := by
  obtain ⟨F, h, -⟩ := S.get i hi; exact h.rd
theorem Sn.rdB {M : Nat → Option HRes} (h : Sn w W M) (k : Nat) {v : Value} {b : BookD} (hk : M k = some (rBook v b)) : RdB W W.heap.size v b := by
  obtain ⟨F, h1, -⟩ := h.get k hk; exact h1.rd
theorem RdBM.form {M B : Nat} {v : Value} {b : BookD} (h : RdBM M w B v b) : ∃ A n c A' n' c' A2 n2 c2, v = .agg #[.int .i64 b.order.start, .slice A n c, .slice A' n' c', .slice A2 n2 c2, .int .i64 b.state] := by
  obtain ⟨A, n, c, A', n', c', A2, n2, c2, e, -⟩ := h
  exact ⟨A, n, c, A', n', c', A2, n2, c2, e⟩
theorem St.formB (S : St w W L) (i : Nat) {v : Value} {b : BookD} (hi : L[i]? = some (rBook v b)) : ∃ A n c A' n' c' A2 n2 c2, v = .agg #[.int .i64 b.order.start, .slice A n c, .slice A' n' c', .slice A2 n2 c2, .int .i64 b.state] := (S.rdB i hi).form
/-- a book's order -/
theorem RdBM.order {M B : Nat} {s st : Int} {x y z : Value} {b : BookD} (h : RdBM M w B (.agg #[.int .i64 s, x, y, z, .int .i64 st]) b) : RdTM M w B (.agg #[.int .i64 s, x, y]) b.order := by
  obtain ⟨A, n, c, A', n', c', A2, n2, c2, e, h1, h2, h3, h4, h5, h6, h7⟩ := h
  simp only [Value.agg.injEq, Array.mk.injEq, List.cons.injEq, Value.int.injEq, true_and, and_true] at e
  obtain ⟨rfl, rfl, rfl, rfl, rfl⟩ := e
  exact ⟨A, n, c, A', n', c', rfl, h1, h2, h3, h4⟩
theorem RdBM.done {M B : Nat} {s st : Int} {x y : Value} {A : Option Addr} {n c : Nat} {b : BookD} (h : RdBM M w B (.agg #[.int .i64 s, x, y, .slice A n c, .int .i64 st]) b) : RdI .i64 w B A n c b.done ∧ n ≤ M ∧ (Lit.int .i64 b.state).wf = true ∧ st = b.state ∧ s = b.order.start := by
  obtain ⟨A, n, c, A', n', c', A2, n2, c2, e, h1, h2, h3, h4, h5, h6, h7⟩ := h
  simp only [Value.agg.injEq, Array.mk.injEq, List.cons.injEq, Value.int.injEq, true_and, and_true, Value.slice.injEq] at e
  obtain ⟨rfl, -, -, ⟨rfl, rfl, rfl⟩, rfl⟩ := e
  exact ⟨h5, h6, h7, rfl, rfl⟩
theorem RdBM.less {M M' B : Nat} {v : Value} {b : BookD} (h : RdBM M w B v b) (hs : szB b ≤ M') : RdBM M' w B v b := by
  unfold szB at hs
  obtain ⟨A, n, c, A', n', c', A2, n2, c2, e, h1, h2, h3, h4, h5, h6, h7⟩ := h
  have ht : RdTM M w B (.agg #[.int .i64 b.order.start, .slice A n c, .slice A' n' c']) b.order := ⟨A, n, c, A', n', c', rfl, h1, h2, h3, h4⟩
  obtain ⟨A, n, c, A', n', c', e', h1, h2, h3, h4⟩ := ht.less (M' := M') (by omega)
  simp only [Value.agg.injEq, Array.mk.injEq, List.cons.injEq, Value.int.injEq, true_and, and_true, Value.slice.injEq] at e'
  obtain ⟨⟨rfl, rfl, rfl⟩, rfl, rfl, rfl⟩ := e'
  have := h5.len
  exact ⟨_, _, _, _, _, _, A2, n2, c2, e, h1, h2, h3, h4, h5, by omega, h7⟩
end
def mkB (b : BookD) : Nat := mkT b.order + b.done.length
def markB (k : Nat) (b : BookD) : BookD := ⟨markT k b.order, marks (k + mkT b.order) b.done.length, b.state⟩
theorem mkB_le (b : BookD) : mkB b ≤ 4 * szB b := by unfold mkB szB; have := mkT_le b.order; omega

theorem OwnT.foot_eq {v : Value} {t : TaskD} {F F' : List Nat} {w : World} (h1 : OwnT w 0 v t F) (g1 : OwnT w 0 v t F') : F' = F := by
  obtain ⟨gv, dv, Fg, Fd, cells, Fs, e1, a1, a2, a3, a4, a5⟩ := h1
  obtain ⟨gv', dv', Fg', Fd', cells', Fs', e1', b1, b2, b3, b4, b5⟩ := g1
  rw [e1] at e1'
  simp only [Value.agg.injEq, Array.mk.injEq, List.cons.injEq, and_true, true_and] at e1'
  obtain ⟨rfl, rfl⟩ := e1'
  have hc : cells' = cells := own_unique b3.row a3.row
  have hg : Fg' = Fg := by rw [b1.foot, a1.foot]
  subst hc hg
  have hfs : Fs' = Fs := by
    refine List.ext_getElem? fun j => ?_
    by_cases hj : j < t.deeds.length
    · have x1 : Fs'[j]? = some (Fs'[j]'(by rw [b3.flen]; exact hj)) := List.getElem?_eq_getElem _
      have x2 : Fs[j]? = some (Fs[j]'(by rw [a3.flen]; exact hj)) := List.getElem?_eq_getElem _
      obtain ⟨n1, q1, _, _, _, q2, _⟩ := b3.deed j _ _ (List.getElem?_eq_getElem hj) x1
      obtain ⟨n2, r1, _, _, _, r2, _⟩ := a3.deed j _ _ (List.getElem?_eq_getElem hj) x2
      rw [q1] at r1
      injection r1 with r1
      subst r1
      rw [x1, x2, q2.foot, r2.foot]
    · rw [List.getElem?_eq_none (by rw [b3.flen]; omega), List.getElem?_eq_none (by rw [a3.flen]; omega)]
  subst hfs
  rw [b4, a4, b3.foot, a3.foot]
theorem OwnB.foot_eq {v : Value} {b : BookD} {F F' : List Nat} {w : World} (h1 : OwnB w v b F) (g1 : OwnB w v b F') : F' = F := by
  obtain ⟨gv, dv, ev, Ft, Fd, rfl, h1, h2, h3, h4, rfl, h5⟩ := h1
  obtain ⟨gv', dv', ev', Ft', Fd', e, g1, g2, g3, g4, rfl, g5⟩ := g1
  simp only [Value.agg.injEq, Array.mk.injEq, List.cons.injEq, and_true, true_and] at e
  obtain ⟨rfl, rfl, rfl⟩ := e
  rw [h1.foot_eq g1, g2.foot, h2.foot]
end Go.Proofs.Ytdbgoekemffimaa
