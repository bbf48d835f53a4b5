/- Joined texts: Mark2, Turn, TTask. -/
import Derived.Test.YtkebgldeahklmaaSEq
import Derived.Test.YtkebgldeahklmaaSApp
import Derived.Deep.RegionHeld3
import Derived.Deep.DeepCutAuto
/- markDeedS, heldDeedS, markTask, heldTask: marks go on from a number, and stand where they were laid. Conditions: at most 2^20 of each, numbers to 2^40. -/
namespace Go.Proofs.Ytkebgldeahklmaa
open Go.ChangeShapes Go.WideShapes Go.ChangeAt Go.RowKit

theorem markDeedS_any (lo : Nat) (v : Value) (ds : List DeedD) (F : List Nat) (cells : List Value) (Fs : List (List Nat)) (k : Nat) (w : World) (h : OwnDs w lo v ds F cells Fs) (hnd : F.Nodup) (hk : k + mkDs ds ≤ 1099511627776) :
    Calls Try.prog 111 #[v, .int .i64 k] w fun e w' => e = .returned (.int .i64 (k + mkDs ds : Nat)) ∧ (∃ cells', OwnDs w' lo v (markDs k ds) F cells' Fs) ∧ Only F w w' := by
  obtain ⟨A, c, hv⟩ := own_form h.row
  subst hv
  have hsm := h.small
  go_enter Try.func111, Try.ntmps111
  go_wp2
  go_loopw [5, 1] (fun i kk wr => ∃ (j : Nat) (cells : List Value), j ≤ ds.length ∧ i = .int .i64 j ∧ kk = .int .i64 (markAt k ds j : Nat) ∧ OwnDs wr lo (.slice A ds.length c) (mixD k ds j) F cells Fs ∧ Only F w wr) (fun i _ _ => ds.length - (intOf i).toNat)
  case atStart => exact ⟨0, cells, by omega, rfl, by simp [markAt], by rw [mixD_zero]; exact h, Only.refl _ _⟩
  case round =>
    obtain ⟨j, cl, hj, rfl, rfl, hown, hon⟩ := hrel
    have hml := mixD_len k ds j hj
    have hmle := markAt_le k ds j
    by_cases hlt : j < ds.length
    · have hrow := hown.row
      rw [hml] at hrow
      obtain ⟨g, cap, hv, hg, hcc, hcm⟩ := own_some hrow (by omega)
      simp only [Value.slice.injEq] at hv
      obtain ⟨rfl, -, rfl⟩ := hv
      unfold maxLen at hcm
      obtain ⟨d, hd⟩ : ∃ d, ds[j]? = some d := ⟨ds[j], List.getElem?_eq_getElem hlt⟩
      have hmd := mixD_at k ds j d hd
      have hflen := hown.flen
      obtain ⟨Fi, hFi⟩ : ∃ Fi, Fs[j]? = some Fi := ⟨Fs[j]'(by omega), List.getElem?_eq_getElem _⟩
      obtain ⟨nv, q0, q1, q2, q3, hneed, hns, -⟩ := hown.deed j d Fi hmd hFi
      have hcl : cl.length = ds.length * 4 := hrow.1
      have c0 : wr.cell? ⟨g, j * 4, none⟩ = some nv := (hrow.cellAt (j * 4) (by omega)).trans q0
      obtain ⟨An, cn, hnv⟩ := own_form hneed.row
      have hmkd : markAt k ds (j + 1) = markAt k ds j + mkD d := markAt_step k ds j d hd
      have hmle2 := markAt_le k ds (j + 1)
      have hmk2 : mkD d = d.need.length + 3 := rfl
      have HMK : Hid (markAt k ds (j + 1) = markAt k ds j + (d.need.length + 3)) := Lib.hid hmkd
      have HST := Lib.hid (mixD_step k ds j d hd)
      have HTU : Hid (∀ (e : DeedD) (w1 : World), e.need.length ≤ 1048576 → OwnI w1 lo nv e.need Fi → Only Fi wr w1 → ((Lit.int .i64 e.on).wf = true ∧ (Lit.int .i64 e.off).wf = true ∧ (Lit.int .i64 e.flip).wf = true) →
        OwnDs (((w1.setCell ⟨g, j * 4 + 1, none⟩ (.int .i64 e.on)).setCell ⟨g, j * 4 + 2, none⟩ (.int .i64 e.off)).setCell ⟨g, j * 4 + 3, none⟩ (.int .i64 e.flip)) lo (.slice (some ⟨g, 0, none⟩) ds.length c) ((mixD k ds j).set j e) F (set3 cl j e.on e.off e.flip) Fs ∧
        Only F wr (((w1.setCell ⟨g, j * 4 + 1, none⟩ (.int .i64 e.on)).setCell ⟨g, j * 4 + 2, none⟩ (.int .i64 e.off)).setCell ⟨g, j * 4 + 3, none⟩ (.int .i64 e.flip))) :=
        Lib.hid fun e w1 h1 h2 h3 h4 => hown.turned hml hnd j d hmd nv q0 Fi hFi e h1 h2 h3 h4
      have hgF : g ∉ Fi := fun hx => by
        have := hown.foot
        simp only [Value.ownBlock, Option.toList] at this
        rw [this, List.singleton_append, List.nodup_cons] at hnd
        exact hnd.1 (mem_flat hFi hx)
      have hgw := (hrow.lt g rfl).2
      have hcellx : ∀ i, i < ds.length * 4 → ∃ u, wr.cell? ⟨g, i, none⟩ = some u := fun i hi => ⟨cl[i]'(by omega), (hrow.cellAt i hi).trans (List.getElem?_eq_getElem _)⟩
      have hfz : ∀ i, wr.frozen? ⟨g, i, none⟩ = false := hrow.frozenAt
      subst hnv
      have HNEED := Lib.hid hneed
      have HN2 := Lib.hid hmkd
      clear hmd hFi q0 q1 q2 q3 hneed hmkd hd hown hrow
      go_wp2_with fail
      refine (markIntS_any lo (.slice An d.need.length cn) d.need Fi (markAt k ds j) _ HNEED.out (by omega) hns).mono ?_
      rintro e w1 ⟨rfl, hoi, hon1⟩
      have hblk : w1.heap[g]? = wr.heap[g]? := hon1.block g hgw hgF
      have hce : ∀ i, w1.cell? ⟨g, i, none⟩ = wr.cell? ⟨g, i, none⟩ := fun i => World.cell?_of_block (a := ⟨g, i, none⟩) hblk
      have hfe : ∀ i, w1.frozen? ⟨g, i, none⟩ = false := fun i => (World.frozen?_of_block (a := ⟨g, i, none⟩) hblk).trans (hfz i)
      obtain ⟨u1, x1⟩ := hcellx (j * 4 + 1) (by omega)
      obtain ⟨u2, x2⟩ := hcellx (j * 4 + 2) (by omega)
      obtain ⟨u3, x3⟩ := hcellx (j * 4 + 3) (by omega)
      have y1 := (hce _).trans x1
      have y2 := (hce _).trans x2
      have y3 := (hce _).trans x3
      have HT2 := Lib.hid (HTU.out (markD (markAt k ds j) d) w1 (by simp [markD]; omega) hoi hon1 ⟨wf_i64_mk (by simp only [markD]; omega), wf_i64_mk (by simp only [markD]; omega), wf_i64_mk (by simp only [markD]; omega)⟩)
      clear hce hcellx hfz x1 x2 x3 hblk hoi hon1 c0
      generalize hma : markAt k ds j = ma at *
      have HMA := Lib.hid hma
      clear hma
      go_wp2
      go_roundw
      case rel => exact ⟨j + 1, _, by omega, by go_num, by rw [HMK.out]; first | rfl | (congr 1; omega), by rw [← HST.out]; exact HT2.out.1, hon.trans HT2.out.2⟩
      case measure => simp [intOf]; omega
    · have hjn : j = ds.length := by omega
      have HJ := Lib.hid hjn
      clear hjn
      have HV : Hid (markAt k ds j = k + mkDs ds) := Lib.hid (by rw [HJ.out]; exact markAt_all k ds)
      have HO : Hid (OwnDs wr lo (.slice A ds.length c) (markDs k ds) F cl Fs) := Lib.hid (by have := hown; rwa [HJ.out, mixD_done] at this)
      clear hown
      go_wp2
      go_ret
      exact ⟨ret_int (by have := HV.out; show ((markAt k ds j : Nat) : Int) = _; omega), ⟨_, HO.out⟩, hon⟩

theorem heldDeedS_any (A : Option Addr) (n c k : Nat) (ds : List DeedD) (w : World) (h : RdDs w w.heap.size A n c (markDs k ds)) (hk : k + mkDs ds ≤ 1099511627776) :
    Calls Try.prog 112 #[.slice A n c, .int .i64 k] w fun e w' => e = .returned (.int .i64 (k + mkDs ds : Nat)) ∧ w = w' := by
  have hl := h.len
  rw [markDs_len] at hl
  have hcap := h.cap
  have hcm := h.capMax
  unfold maxLen at hcm
  have HL := Lib.hid hl
  clear hl
  go_enter Try.func112, Try.ntmps112
  go_wp2
  go_loop [5, 1] (fun i kk => ∃ j : Nat, j ≤ n ∧ i = .int .i64 j ∧ kk = .int .i64 (markAt k ds j : Nat)) (fun i _ => n - (intOf i).toNat)
  case atStart => exact ⟨0, by omega, rfl, by simp [markAt]⟩
  case round =>
    obtain ⟨j, hj, rfl, rfl⟩ := hrel
    have hmle := markAt_le k ds j
    have hmle2 := markAt_le k ds (j + 1)
    by_cases hlt : j < n
    · obtain ⟨b, off, e, rfl, hb, he, hda⟩ := h.get hlt
      obtain ⟨d, hd⟩ : ∃ d, ds[j]? = some d := ⟨ds[j]'(by rw [HL.out]; exact hlt), List.getElem?_eq_getElem _⟩
      have hee : e = markD (markAt k ds j) d := by have := he.symm.trans (markDs_get k ds j d hd); injection this
      subst hee
      obtain ⟨An, nn, cn, q0, q1, q2, q3, hneed, hnn, -⟩ := hda
      have hmkd := markAt_step k ds j d hd
      have hnl := hneed.len
      simp only [markD, marks_len] at hnl
      subst hnl
      have hmk2 : mkD d = d.need.length + 3 := rfl
      have HMK : Hid (markAt k ds (j + 1) = markAt k ds j + (d.need.length + 3)) := Lib.hid hmkd
      simp only [markD] at q1 q2 q3
      have HNEED : Hid (RdI .i64 w w.heap.size An d.need.length cn (marks (markAt k ds j) d.need.length)) := Lib.hid hneed
      clear he hd hneed
      go_wp2_with fail
      refine (heldIntS_any An d.need.length cn (markAt k ds j) _ HNEED.out (by omega) hnn).mono ?_
      rintro e w1 ⟨rfl, rfl⟩
      generalize hma : markAt k ds j = ma at *
      have HMA := Lib.hid hma
      clear hma
      go_wp2
      go_round
      case rel => exact ⟨j + 1, by omega, by go_num, by rw [HMK.out]; first | rfl | (congr 1; omega)⟩
      case measure => simp [intOf]; omega
    · have hjn : j = n := by omega
      have HJ := Lib.hid hjn
      clear hjn
      have HV : Hid (markAt k ds j = k + mkDs ds) := Lib.hid (by rw [HJ.out, ← HL.out]; exact markAt_all k ds)
      go_wp2
      go_ret
      exact ⟨ret_int (by have := HV.out; show ((markAt k ds j : Nat) : Int) = _; omega), rfl⟩

def mkT (t : TaskD) : Nat := t.goal.length + mkDs t.deeds
def markT (k : Nat) (t : TaskD) : TaskD := ⟨t.start, marks k t.goal.length, markDs (k + t.goal.length) t.deeds⟩
theorem markTask_any (lo : Nat) (v : Value) (t : TaskD) (F : List Nat) (k : Nat) (w : World) (h : OwnT w lo v t F) (hnd : F.Nodup) (hk : k + mkT t ≤ 1099511627776) :
    Calls Try.prog 75 #[v, .int .i64 k] w fun e w' => e = .returned (.int .i64 (k + mkT t : Nat)) ∧ OwnT w' lo v (markT k t) F ∧ Only F w w' := by
  obtain ⟨gv, dv, Fg, Fd, cells, Fs, rfl, h1, h2, h3, rfl, h4⟩ := h
  rw [List.nodup_append] at hnd
  obtain ⟨hn1, hn2, hn3⟩ := hnd
  have hk' : k + t.goal.length + mkDs t.deeds ≤ 1099511627776 := by unfold mkT at hk; omega
  obtain ⟨Ag, cg, hgv⟩ := own_form h1.row
  obtain ⟨Ad, cd, hdv⟩ := own_form h3.row
  subst hgv
  subst hdv
  have hb0 : Below w.heap.size w (w.alloc (Obj.cells #[.int .i64 t.start, .slice Ag t.goal.length cg, .slice Ad t.deeds.length cd] 26)) := (Below.refl _ _).alloc (Nat.le_refl _) _
  have hk0 := Blk.new w 26 #[.int .i64 t.start, .slice Ag t.goal.length cg, .slice Ad t.deeds.length cd]
  have hlt1 := h1.lt
  have hlt3 := h3.lt
  have H1 := Lib.hid (h1.below hb0)
  have HB0 := Lib.hid hb0
  clear hb0
  go_enter Try.func75, Try.ntmps75
  go_wp2_with fail
  refine (markIntS_any lo _ t.goal Fg k _ H1.out (by omega) h2).mono ?_
  rintro e w1 ⟨rfl, ho1, hon1⟩
  have hk1 : Blk w1 w.heap.size 26 #[.int .i64 t.start, .slice Ag t.goal.length cg, .slice Ad t.deeds.length cd] := by
    unfold Blk; rw [hon1.block _ (by simp) (fun hx => by have := (hlt1 _ hx).2; omega)]; exact hk0
  have c2 : w1.cell? ⟨w.heap.size, 2, none⟩ = some (.slice Ad t.deeds.length cd) := hk1.cell 2
  have ho3 : OwnDs w1 lo (.slice Ad t.deeds.length cd) t.deeds Fd cells Fs := (h3.below HB0.out).keep fun b hb => hon1.block b (by have := (hlt3 b hb).2; simp; omega) (fun hx => hn3 b hx b hb rfl)
  have HO3 := Lib.hid ho3
  clear ho3 hk0 hk1
  go_wp2_with fail
  refine (markDeedS_any lo _ t.deeds Fd cells Fs (k + t.goal.length) _ HO3.out hn2 hk').mono ?_
  rintro e w2 ⟨rfl, ⟨cells', ho2⟩, hon2⟩
  have hs1 := hon1.size
  simp only [World.size_alloc] at hs1
  have key : OwnT w2 lo (.agg #[.int .i64 t.start, .slice Ag t.goal.length cg, .slice Ad t.deeds.length cd]) (markT k t) (Fg ++ Fd) ∧ Only (Fg ++ Fd) w w2 := by
    refine ⟨⟨_, _, Fg, Fd, cells', Fs, rfl, ho1.keep fun b hb => hon2.block b (by have := (ho1.lt b hb).2; omega) (fun hx => hn3 b hb b hx rfl), by simp [markT]; exact h2, ho2, rfl, h4⟩, ?_⟩
    exact ((Only.of_below HB0.out).trans (hon1.sub fun x hx => List.mem_append_left _ hx)).trans (hon2.sub fun x hx => List.mem_append_right _ hx)
  have KEY := Lib.hid key
  clear key ho1 ho2 hon1 hon2
  go_wp2
  go_ret
  exact ⟨ret_int (by show ((k + t.goal.length + mkDs t.deeds : Nat) : Int) = _; unfold mkT; omega), KEY.out⟩

theorem heldTask_any (v : Value) (k : Nat) (t : TaskD) (w : World) (h : RdT w w.heap.size v (markT k t)) (hk : k + mkT t ≤ 1099511627776) :
    Calls Try.prog 77 #[v, .int .i64 k] w fun e w' => e = .returned (.int .i64 (k + mkT t : Nat)) ∧ Below w.heap.size w w' := by
  obtain ⟨A, n, c, A', n', c', rfl, hg, hgs, hds, hst⟩ := h
  have hk' : k + t.goal.length + mkDs t.deeds ≤ 1099511627776 := by unfold mkT at hk; omega
  have hnl := hg.len
  simp only [markT, marks_len] at hnl
  subst hnl
  have hb0 : Below w.heap.size w (w.alloc (Obj.cells #[.int .i64 t.start, .slice A t.goal.length c, .slice A' n' c'] 26)) := (Below.refl _ _).alloc (Nat.le_refl _) _
  have H1 : Hid (RdI .i64 _ _ A t.goal.length c (marks k t.goal.length)) := Lib.hid (hg.up hb0)
  have H2 : Hid (RdDs _ _ A' n' c' (markDs (k + t.goal.length) t.deeds)) := Lib.hid (hds.up hb0)
  have HB0 := Lib.hid hb0
  clear hb0
  go_enter Try.func77, Try.ntmps77
  go_wp2_with fail
  refine (heldIntS_any A t.goal.length c k _ H1.out (by omega) hgs).mono ?_
  rintro e w1 ⟨rfl, rfl⟩
  go_wp2_with fail
  refine (heldDeedS_any A' n' c' (k + t.goal.length) t.deeds _ H2.out hk').mono ?_
  rintro e w2 ⟨rfl, rfl⟩
  go_wp2
  go_ret
  exact ⟨ret_int (by show ((k + t.goal.length + mkDs t.deeds : Nat) : Int) = _; unfold mkT; omega), HB0.out⟩
end Go.Proofs.Ytkebgldeahklmaa

/- Codes with facts turned round: codeTurned of the program, l9Turned of the reference: one plain function. Condition: the steps are such (0..9), and the facts a state (0..31). -/
namespace Go.Proofs.Ytkebgldeahklmaa
open Go.ChangeShapes Go.WideShapes Go.ChangeAt Go.RowKit

def turnOne (f : Nat) (x : Int) : List Int := if x < 5 ∧ bit f x.toNat = 1 then [x, 7] else [x]
def turnI (f : Nat) (xs : List Int) : List Int := xs.flatMap (turnOne f)
theorem turnI_take (f : Nat) (xs : List Int) (k : Nat) (x : Int) (hx : xs[k]? = some x) : turnI f (xs.take (k + 1)) = turnI f (xs.take k) ++ turnOne f x := by
  obtain ⟨h1, h2⟩ := List.getElem?_eq_some_iff.1 hx
  rw [List.take_succ_eq_append_getElem h1, h2]
  simp [turnI]
theorem turnI_len (f : Nat) (xs : List Int) : (turnI f xs).length ≤ 2 * xs.length := by
  induction xs with
  | nil => simp [turnI]
  | cons x xs ih =>
    have : turnI f (x :: xs) = turnOne f x ++ turnI f xs := by simp [turnI]
    rw [this, List.length_append, List.length_cons]
    have : (turnOne f x).length ≤ 2 := by unfold turnOne; split <;> simp
    omega
theorem turnI_wf (f : Nat) (xs : List Int) (h : ∀ x ∈ xs, (Lit.int .i64 x).wf = true) : ∀ x ∈ turnI f xs, (Lit.int .i64 x).wf = true := by
  intro x hx
  unfold turnI at hx
  obtain ⟨y, hy, hx⟩ := List.mem_flatMap.1 hx
  unfold turnOne at hx
  split at hx
  · simp at hx
    rcases hx with rfl | rfl
    · exact h _ hy
    · rfl
  · simp at hx; subst hx; exact h _ hy
theorem codeOk_in (xs : List Int) (h : codeOk xs = true) : ∀ x ∈ xs, 0 ≤ x ∧ x ≤ 9 := by
  intro x hx
  obtain ⟨k, hk⟩ := List.mem_iff_getElem?.1 hx
  have hl := (List.getElem?_eq_some_iff.1 hk).1
  obtain ⟨d, -, -, hd⟩ := codeOk_at xs h k (by omega)
  obtain ⟨d', hd'⟩ := hd x hk
  by_cases hb : x < 0 ∨ 9 < x
  · rw [dStep_out d x hb] at hd'; cases hd'
  · omega

end Go.Proofs.Ytkebgldeahklmaa

/- Plain law: a task with some facts turned round; small words on memory. -/
namespace Go.Proofs.Ytkebgldeahklmaa
open Go.ChangeShapes Go.WideShapes Go.ChangeAt Go.RowKit

def turnOn (f a b : Nat) : Nat := a - (a &&& f) + (b &&& f)
def turnD (f : Nat) (d : DeedD) : DeedD := ⟨turnI f d.need, (turnOn f d.on.toNat d.off.toNat : Nat), (turnOn f d.off.toNat d.on.toNat : Nat), d.flip⟩
def turnT (f : Nat) (t : TaskD) : TaskD := ⟨((t.start.toNat ^^^ f : Nat) : Int), turnI f t.goal, t.deeds.map (turnD f)⟩
def turnOk (t : TaskD) (f : Int) : Bool := taskOk t && stIn f && taskOk (turnT f.toNat t)
def taskTurned (t : TaskD) (f : Int) : TaskD := if turnOk t f = true then turnT f.toNat t else ⟨0, [], []⟩
theorem Blk.drew' {w : World} {g : Nat} {t : TypeId} {cs : Array Value} (h : Blk w g t cs) : Blk w.drew g t cs := h
theorem Only.then_below {F : List Nat} {a b c : World} (h : Only F a b) (k : Below a.heap.size b c) : Only F a c :=
  ⟨k.os.trans h.os, k.tape.trans h.tape, k.output.trans h.output, Nat.le_trans h.size k.size, fun i hi hn => (k.block i hi).trans (h.block i hi hn)⟩
theorem OwnT.zero (w : World) (lo : Nat) : OwnT w lo (.agg #[.int .i64 0, .slice none 0 0, .slice none 0 0]) ⟨0, [], []⟩ [] :=
  ⟨_, _, [], [], [], [], rfl, OwnI.none w lo, by simp, ⟨World.ownsRow_nil w lo _ 4, by simp, rfl, by simp [Value.ownBlock], by simp⟩, rfl, rfl⟩
theorem OwnT.of_push {w : World} {lo lo1 lo2 T : Nat} {gv dv : Value} {t : TaskD} {Fg : List Nat} {cells : List Value} {Fs : List (List Nat)} (hg : OwnI w lo1 gv t.goal Fg) (hgs : t.goal.length ≤ 1048576) (hd : PushDs w lo2 T dv t.deeds cells Fs) (hst : (Lit.int .i64 t.start).wf = true)
    (h1 : lo ≤ lo1) (h2 : lo ≤ lo2) (h3 : ∀ b ∈ Fg, b < lo2) : OwnT w lo (.agg #[.int .i64 t.start, gv, dv]) t (Fg ++ (dv.ownBlock.toList ++ Fs.flatten)) ∧ (Fg ++ (dv.ownBlock.toList ++ Fs.flatten)).Nodup := by
  refine ⟨⟨gv, dv, Fg, _, cells, Fs, rfl, hg.mono h1, hgs, hd.own.mono h2, rfl, hst⟩, ?_⟩
  rw [List.nodup_append]
  refine ⟨hg.nodup, hd.nodup, fun a ha b hb => ?_⟩
  have := h3 a ha
  have := (hd.own.lt b hb).1
  omega
theorem turn_or0 : ∀ f a b : Fin 32, (a.val - (a.val &&& f.val)) ||| (b.val &&& f.val) = turnOn f.val a.val b.val ∧ turnOn f.val a.val b.val < 64 := by decide +kernel

theorem turn_or (f a b : Nat) (hf : f < 32) (ha : a < 32) (hb : b < 32) : bits .or .i64 (bits .andNot .i64 (a : Int) (f : Int)) (bits .and .i64 (b : Int) (f : Int)) = ((turnOn f a b : Nat) : Int) := by
  have h1 : a &&& f ≤ a := Nat.and_le_left
  have h2 : b &&& f ≤ b := Nat.and_le_left
  rw [i64_andNot_nat _ _ (by omega) (by omega), i64_and_nat _ _ (by omega) (by omega), i64_or_nat _ _ (by omega) (by omega)]
  exact congrArg _ (turn_or0 ⟨f, hf⟩ ⟨a, ha⟩ ⟨b, hb⟩).1
end Go.Proofs.Ytkebgldeahklmaa
