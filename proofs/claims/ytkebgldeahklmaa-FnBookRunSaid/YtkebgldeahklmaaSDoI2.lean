/- Joined texts: DoI2, Pack. -/
import Derived.Test.YtkebgldeahklmaaSDoI
import Derived.Test.YtkebgldeahklmaaSIntS
/- BookDo of the program. -/
namespace Go.Proofs.Ytkebgldeahklmaa
set_option linter.unusedVariables false
set_option linter.unusedSimpArgs false
open Go.ChangeShapes Go.WideShapes Go.ChangeAt Go.RowKit

section
variable {w W W' : World} {L : List HRes}
/-- the first thing parted in two -/
theorem St.split {R R₁ R₂ : HRes} (h : St w W (R :: L)) (k : ∀ F, R.at_ W F → ∃ F1 F2, F = F1 ++ F2 ∧ R₁.at_ W F1 ∧ R₂.at_ W F2) : St w W (R₁ :: R₂ :: L) := by
  obtain ⟨Fs, kl, ha, hnd⟩ := h.has
  match Fs, kl, ha, hnd with
  | F :: Fs, kl, ha, hnd =>
    obtain ⟨a1, a2⟩ := ha 0 _ F rfl rfl
    obtain ⟨F1, F2, rfl, b1, b2⟩ := k F a1
    refine ⟨h.below, F1 :: F2 :: Fs, by simpa using kl, fun i R' F' hR hF => ?_, by simpa using hnd⟩
    match i with
    | 0 =>
      injection hR with hR; injection hF with hF; subst hR hF
      exact ⟨b1, fun x hx => a2 x (List.mem_append_left _ hx)⟩
    | 1 =>
      simp only [List.getElem?_cons_succ, List.getElem?_cons_zero, Option.some.injEq] at hR hF
      subst hR hF
      exact ⟨b2, fun x hx => a2 x (List.mem_append_right _ hx)⟩
    | i + 2 => exact ha (i + 1) R' F' (by simpa using hR) (by simpa using hF)
theorem St.unbook {s st : Int} {gv dv ev : Value} {b : BookD} (h : St w W (rBook (.agg #[.int .i64 s, gv, dv, ev, .int .i64 st]) b :: L)) : St w W (rTask (.agg #[.int .i64 s, gv, dv]) b.order :: rInts ev b.done :: L) :=
  h.split fun F ⟨gv', dv', ev', Ft, Fd, e, h1, h2, h3, h4, h5, h6⟩ => by
    simp only [Value.agg.injEq, Array.mk.injEq, List.cons.injEq, and_true, Value.int.injEq, true_and] at e
    obtain ⟨rfl, rfl, rfl, rfl, -⟩ := e
    refine ⟨Ft, Fd, h5, ⟨h1, ?_⟩, h2⟩
    rw [h5] at h6
    exact (List.nodup_append.1 h6).1
theorem St.book' {o : TaskD} {s st : Int} {gv dv ev : Value} {done : List Int} (hs : o.start = s) (h : St w W (rTask (.agg #[.int .i64 s, gv, dv]) o :: rInts ev done :: L)) (hd : done.length ≤ 1048576) (hst : (Lit.int .i64 st).wf = true) :
    St w W (rBook (.agg #[.int .i64 s, gv, dv, ev, .int .i64 st]) ⟨o, done, st⟩ :: L) := by
  obtain ⟨os, og, od⟩ := o
  simp only at hs
  subst hs
  exact h.book hd hst
end
set_option maxRecDepth 100000 in
set_option maxHeartbeats 2000000 in
theorem bookDo_impl (v : Value) (b : BookD) (k m : Int) (w : World) (h : RdB w w.heap.size v b) (hmw : (Lit.int .i64 m).wf = true) :
    Calls Try.prog 25 #[v, .agg #[.int .i64 k, .int .i64 m]] w (Gives w (fun v => .tuple #[v, .bool (bookDid b ⟨k, m⟩)]) fun v => [rBook v (bookDo b ⟨k, m⟩)]) := by
  obtain ⟨G, gn, gc, G', n', c', D', dn, dc, hv⟩ := h.form
  subst hv
  obtain ⟨hdn, hdl, hst, -⟩ := h.done
  obtain ⟨os, hos⟩ : ∃ x, b.order.start = x := ⟨_, rfl⟩
  obtain ⟨st, hstt⟩ : ∃ x, b.state = x := ⟨_, rfl⟩
  have HBK := Lib.hid h
  have HO := Lib.hid h.order
  have HOS := Bx.mk hos
  have HSTT := Bx.mk hstt
  rw [hstt] at hst
  have HST := Lib.hid hst
  have HDL : Hid (b.done.length = dn) := Lib.hid hdn.len
  rw [hos] at HO
  rw [hos, hstt] at HBK
  rw [hos, hstt]
  have S0 : St w (((w.alloc (Obj.cells #[.int .i64 os, .slice G gn gc, .slice G' n' c', .slice D' dn dc, .int .i64 st] 28)).alloc (Obj.cells #[.int .i64 k, .int .i64 m] 50)).alloc (Obj.cells #[.int .i64 0, .slice none 0 0, .slice none 0 0, .slice none 0 0, .int .i64 0] 28))
      [rBlk w.heap.size 28 #[.int .i64 os, .slice G gn gc, .slice G' n' c', .slice D' dn dc, .int .i64 st], rBlk (w.heap.size + 1) 50 #[.int .i64 k, .int .i64 m], rBlk (w.heap.size + 2) 28 #[.int .i64 0, .slice none 0 0, .slice none 0 0, .slice none 0 0, .int .i64 0]] := by
    have := (((St.refl w).alloc #[.int .i64 os, .slice G gn gc, .slice G' n' c', .slice D' dn dc, .int .i64 st] 28).alloc #[.int .i64 k, .int .i64 m] 50).alloc #[.int .i64 0, .slice none 0 0, .slice none 0 0, .slice none 0 0, .int .i64 0] 28
    simpa using this
  have HS0 := Lib.hid S0
  obtain ⟨bo, hok⟩ : ∃ x, bookOk b = x := ⟨_, rfl⟩
  have HOK := Bx.mk hok
  clear S0 hdn h hos hstt hst hok
  cases bo with
  | false =>
    obtain ⟨e1, e2⟩ := bookDo_bad (a := ⟨k, m⟩) HOK.out
    have HE1 := Bx.mk e1
    have HE2 := Bx.mk e2
    clear e1 e2
    go_enter Try.func25, Try.ntmps25
    go_wp2_with fail
    refine (bookValid_impl _ b _ (HBK.out.up HS0.out.below)).mono ?_
    rw [HOK.out]
    rintro e w1 ⟨rfl, hb1⟩
    have HS1 := Lib.hid (HS0.out.quiet hb1)
    have q1 : ∀ j, w1.cell? ⟨w.heap.size + 2, j, none⟩ = _ := HS1.out.cells 2 rfl
    have f1 := HS1.out.free 2 rfl
    clear hb1
    go_wp2
    refine bodyPost_ret (v := .tuple #[.agg #[.int .i64 0, .slice none 0 0, .slice none 0 0, .slice none 0 0, .int .i64 0], .bool false]) (by simp [results, Try.results25, go_sem, q1]) rfl ⟨.agg #[.int .i64 0, .slice none 0 0, .slice none 0 0, .slice none 0 0, .int .i64 0], by rw [HE2.out], ?_⟩
    rw [HE1.out]
    exact St.book0 (HS1.out.set5 2 rfl _ _ _ _ _).below
  | true =>
    go_enter Try.func25, Try.ntmps25
    go_wp2_with fail
    refine (bookValid_impl _ b _ (HBK.out.up HS0.out.below)).mono ?_
    rw [HOK.out]
    rintro e w1 ⟨rfl, hb1⟩
    have HS1 := Lib.hid (HS0.out.quiet hb1)
    have q1 : ∀ j, w1.cell? ⟨w.heap.size, j, none⟩ = _ := HS1.out.cells 0 rfl
    clear hb1 HS0
    go_wp2_with fail
    refine (bookCopy_any _ b _ (HBK.out.up HS1.out.below)).mono ?_
    rintro e w2 ⟨v2, rfl, s2⟩
    obtain ⟨A1, n1, c1, A2, n2, c2, A3, n3, c3, hv⟩ := s2.formB 0 rfl
    rw [HOS.out, HSTT.out] at hv
    simp only [id_eq] at hv ⊢
    subst hv
    obtain ⟨g2, hg2⟩ : ∃ g, w2.heap.size = g := ⟨_, rfl⟩
    have HS2 : Hid (St w (w2.alloc (.cells #[.int .i64 os, .slice A1 n1 c1, .slice A2 n2 c2, .slice A3 n3 c3, .int .i64 st] 28)) [rBlk w.heap.size 28 #[.int .i64 os, .slice G gn gc, .slice G' n' c', .slice D' dn dc, .int .i64 st], rBlk (w.heap.size + 1) 50 #[.int .i64 k, .int .i64 m], rBlk (w.heap.size + 2) 28 #[.int .i64 0, .slice none 0 0, .slice none 0 0, .slice none 0 0, .int .i64 0],
        rBook (.agg #[.int .i64 os, .slice A1 n1 c1, .slice A2 n2 c2, .slice A3 n3 c3, .int .i64 st]) b, rBlk g2 28 #[.int .i64 os, .slice A1 n1 c1, .slice A2 n2 c2, .slice A3 n3 c3, .int .i64 st]]) := Lib.hid (by rw [← hg2]; exact (HS1.out.call s2).alloc _ _)
    have q2 : ∀ j, (w2.alloc (.cells #[.int .i64 os, .slice A1 n1 c1, .slice A2 n2 c2, .slice A3 n3 c3, .int .i64 st] 28)).cell? ⟨w.heap.size, j, none⟩ = _ := HS2.out.cells 0 rfl
    have q3 : ∀ j, (w2.alloc (.cells #[.int .i64 os, .slice A1 n1 c1, .slice A2 n2 c2, .slice A3 n3 c3, .int .i64 st] 28)).cell? ⟨w.heap.size + 1, j, none⟩ = _ := HS2.out.cells 1 rfl
    clear s2 HS1 q1
    go_wp2_with fail
    refine (doneAfter_any _ b k m _ (HBK.out.up HS2.out.below) HOK.out hmw).mono ?_
    rintro e w3 ⟨v4, ds, rfl, hds, s3⟩
    obtain ⟨A4, c4, hv4, -⟩ := s3.rdI 0 rfl
    obtain ⟨dl, hdl4⟩ : ∃ x, ds.length = x := ⟨_, rfl⟩
    have HDL4 := Bx.mk hdl4
    rw [hdl4] at hv4
    subst hv4
    have HS3 := Lib.hid (HS2.out.call s3)
    have q0 : ∀ j, w3.cell? ⟨w.heap.size, j, none⟩ = _ := HS3.out.cells 0 rfl
    have q4 : ∀ j, w3.cell? ⟨g2, j, none⟩ = _ := HS3.out.cells 4 rfl
    have q5 : ∀ j, w3.cell? ⟨w.heap.size + 2, j, none⟩ = _ := HS3.out.cells 2 rfl
    have f4 := HS3.out.free 4 rfl
    have f5 := HS3.out.free 2 rfl
    clear s3 q2 q3 HS2 hdl4
    obtain ⟨o, ho⟩ : ∃ x, doneAfter b ⟨k, m⟩ = x := ⟨_, rfl⟩
    rw [ho] at hds ⊢
    cases o with
    | none =>
      obtain ⟨e1, e2⟩ := bookDo_none HOK.out ho
      have HE1 := Bx.mk e1
      have HE2 := Bx.mk e2
      clear e1 e2 ho hds
      simp only [Option.isSome_none] at *
      try rw [hg2]
      go_wp2
      refine bodyPost_ret (v := .tuple #[.agg #[.int .i64 os, .slice A1 n1 c1, .slice A2 n2 c2, .slice A3 n3 c3, .int .i64 st], .bool false]) (by simp [results, Try.results25, go_sem, q5]) rfl ⟨.agg #[.int .i64 os, .slice A1 n1 c1, .slice A2 n2 c2, .slice A3 n3 c3, .int .i64 st], by rw [HE2.out], ?_⟩
      rw [HE1.out]
      exact (HS3.out.set5 2 rfl _ _ _ _ _).pick [3] (by decide) rfl rfl
    | some d =>
      obtain rfl := hds d rfl
      obtain ⟨e1, e2⟩ := bookDo_some HOK.out ho
      have HE1 := Bx.mk e1
      have HE2 := Bx.mk e2
      have hr := doneAfter_run HOK.out ho
      have hdl40 := doneAfter_len HOK.out ho
      obtain ⟨z, hz⟩ : ∃ z, planRun b.order os ds = z := ⟨_, rfl⟩
      have HZ := Bx.mk hz
      have HEZ : Bx (withDone b ds = ⟨b.order, ds, z⟩) := Bx.mk (by unfold withDone; rw [HOS.out, hz])
      have hzw : (Lit.int .i64 z).wf = true := wf_nonneg (by rw [← hz, ← HOS.out]; exact hr) (by have := ((planRun_bd b.order b.order.start ds).1 hr).2.2.2; rw [HOS.out, hz] at this; omega)
      clear e1 e2 ho hds hr hz
      simp only [Option.isSome_some] at *
      try rw [hg2]
      have HS4 : Hid (St w (w3.setCell ⟨g2, 3, none⟩ (.slice A4 dl c4)) [rBlk w.heap.size 28 #[.int .i64 os, .slice G gn gc, .slice G' n' c', .slice D' dn dc, .int .i64 st], rBlk (w.heap.size + 1) 50 #[.int .i64 k, .int .i64 m], rBlk (w.heap.size + 2) 28 #[.int .i64 0, .slice none 0 0, .slice none 0 0, .slice none 0 0, .int .i64 0],
        rBook (.agg #[.int .i64 os, .slice A1 n1 c1, .slice A2 n2 c2, .slice A3 n3 c3, .int .i64 st]) b, rBlk g2 28 #[.int .i64 os, .slice A1 n1 c1, .slice A2 n2 c2, .slice A4 dl c4, .int .i64 st], rInts (.slice A4 dl c4) ds]) := Lib.hid (HS3.out.set 4 rfl 3 (.slice A4 dl c4))
      have p0 : ∀ j, (w3.setCell ⟨g2, 3, none⟩ (.slice A4 dl c4)).cell? ⟨w.heap.size, j, none⟩ = _ := HS4.out.cells 0 rfl
      have HRD4 := Lib.hid (HS4.out.rdI' 5 rfl)
      go_wp2_with fail
      refine (planRun_impl _ b.order os A4 dl c4 ds _ (HO.out.up HS4.out.below) HRD4.out).mono ?_
      rw [HZ.out]
      rintro e w5 ⟨rfl, hb5⟩
      have HS5 := Lib.hid (HS4.out.quiet hb5)
      have r4 : w5.cell? ⟨g2, 4, none⟩ = some (.int .i64 st) := HS5.out.cells 4 rfl 4
      have s4 := HS5.out.free 4 rfl
      clear hb5 p0 q0 q4 q5 f4 f5 HS3 HS4
      go_upto_region 8 with (fail)
      have HS6 : Hid (St w (w5.setCell ⟨g2, 4, none⟩ (.int .i64 z)) [rBlk w.heap.size 28 #[.int .i64 os, .slice G gn gc, .slice G' n' c', .slice D' dn dc, .int .i64 st], rBlk (w.heap.size + 1) 50 #[.int .i64 k, .int .i64 m], rBlk (w.heap.size + 2) 28 #[.int .i64 0, .slice none 0 0, .slice none 0 0, .slice none 0 0, .int .i64 0],
        rBook (.agg #[.int .i64 os, .slice A1 n1 c1, .slice A2 n2 c2, .slice A3 n3 c3, .int .i64 st]) b, rBlk g2 28 #[.int .i64 os, .slice A1 n1 c1, .slice A2 n2 c2, .slice A4 dl c4, .int .i64 z], rInts (.slice A4 dl c4) ds]) := Lib.hid (HS5.out.set 4 rfl 4 (.int .i64 z))
      clear HS5 r4 s4
      obtain ⟨w6, hw6⟩ : ∃ x, w5.setCell ⟨g2, 4, none⟩ (.int .i64 z) = x := ⟨_, rfl⟩
      rw [hw6] at HS6 ⊢
      clear hw6
      have r4 : ∀ j, w6.cell? ⟨g2, j, none⟩ = _ := HS6.out.cells 4 rfl
      have r5 : ∀ j, w6.cell? ⟨w.heap.size + 2, j, none⟩ = _ := HS6.out.cells 2 rfl
      have s5 := HS6.out.free 2 rfl
      go_wp2
      have HS7 := Lib.hid (HS6.out.set5 2 rfl (.int .i64 os) (.slice A1 n1 c1) (.slice A2 n2 c2) (.slice A4 dl c4) (.int .i64 z))
      have q6 := HS7.out.cells 2 rfl
      refine bodyPost_ret (v := .tuple #[.agg #[.int .i64 os, .slice A1 n1 c1, .slice A2 n2 c2, .slice A4 dl c4, .int .i64 z], .bool true]) (by simp [results, Try.results25, go_sem, q6]) rfl ⟨.agg #[.int .i64 os, .slice A1 n1 c1, .slice A2 n2 c2, .slice A4 dl c4, .int .i64 z], by rw [HE2.out], ?_⟩
      rw [HE1.out, HEZ.out]
      have := HS7.out.pick [3, 5] (by decide) rfl rfl
      exact ((this.unbook.pick (L' := [rTask (.agg #[.int .i64 os, .slice A1 n1 c1, .slice A2 n2 c2]) b.order, rInts (.slice A4 dl c4) ds]) [0, 2] (by decide) rfl rfl)).book' HOS.out (by omega) hzw
end Go.Proofs.Ytkebgldeahklmaa

/- Several things of the list taken as one, and parted again; picks within a region that draws. -/
namespace Go.Proofs.Ytkebgldeahklmaa
set_option linter.unusedVariables false
set_option linter.unusedSimpArgs false
open Go.ChangeShapes Go.WideShapes Go.ChangeAt Go.RowKit

section
variable {w W W' : World} {Rs L : List HRes} {M : Nat → Option HRes}
theorem St.pack (h : St w W (Rs ++ L)) : St w W (Rs ++ [rAll L]) := by
  obtain ⟨Fs, kl, ha, hn⟩ := h.has
  have hl : Fs.length = Rs.length + L.length := by rw [kl, List.length_append]
  have e : Fs = Fs.take Rs.length ++ Fs.drop Rs.length := (List.take_append_drop ..).symm
  have hn2 := hn
  rw [e, List.flatten_append] at hn2
  refine ⟨h.below, Fs.take Rs.length ++ [(Fs.drop Rs.length).flatten], by simp; omega, fun i R F hR hF => ?_, by rw [List.flatten_append]; simpa using hn2⟩
  rcases Nat.lt_or_ge i Rs.length with hi | hi
  · rw [List.getElem?_append_left hi] at hR
    rw [List.getElem?_append_left (by simp; omega), List.getElem?_take_of_lt hi] at hF
    exact ha i R F (by rw [List.getElem?_append_left hi]; exact hR) hF
  · rw [List.getElem?_append_right hi] at hR
    rw [List.getElem?_append_right (by simp; omega)] at hF
    have hi0 : i = Rs.length := by
      have := (List.getElem?_eq_some_iff.1 hR).1
      simp at this; omega
    subst hi0
    rw [Nat.sub_self] at hR
    rw [show Rs.length - (Fs.take Rs.length).length = 0 by simp; omega] at hF
    simp only [List.getElem?_cons_zero, Option.some.injEq] at hR hF
    subst hR hF
    have hat : ∀ (j : Nat) R G, L[j]? = some R → (Fs.drop Rs.length)[j]? = some G → R.at_ W G ∧ ∀ b ∈ G, w.heap.size ≤ b := fun j R G hR hG => by
      rw [List.getElem?_drop] at hG
      exact ha (Rs.length + j) R G (by rw [List.getElem?_append_right (by omega), Nat.add_sub_cancel_left]; exact hR) hG
    refine ⟨⟨Fs.drop Rs.length, by simp; omega, fun j R G hR hG => (hat j R G hR hG).1, (List.nodup_append.1 hn2).2.1, rfl⟩, fun b hb => ?_⟩
    obtain ⟨G, hG, hb⟩ := List.mem_flatten.1 hb
    obtain ⟨j, hj⟩ := List.mem_iff_getElem?.1 hG
    have hjl : j < L.length := by have := (List.getElem?_eq_some_iff.1 hj).1; simp at this; omega
    exact (hat j _ G (List.getElem?_eq_getElem hjl) hj).2 b hb
theorem St.unpack (h : St w W (Rs ++ [rAll L])) : St w W (Rs ++ L) := by
  obtain ⟨Fs, kl, ha, hn⟩ := h.has
  have hl : Fs.length = Rs.length + 1 := by simpa using kl
  have hF : Fs[Rs.length]? = some (Fs[Rs.length]'(by omega)) := List.getElem?_eq_getElem _
  generalize Fs[Rs.length]'(by omega) = F at hF
  obtain ⟨⟨Gs, g1, g2, g3, g4⟩, h2⟩ := ha Rs.length (rAll L) F (by simp) hF
  have e : Fs = Fs.take Rs.length ++ [F] := by
    have h1 := (List.take_append_drop Rs.length Fs).symm
    have h3 : Fs.drop Rs.length = [F] := by
      obtain ⟨hlt, he⟩ := List.getElem?_eq_some_iff.1 hF
      rw [List.drop_eq_getElem_cons hlt, he, List.drop_of_length_le (by omega)]
    rw [h3] at h1; exact h1
  refine ⟨h.below, Fs.take Rs.length ++ Gs, by simp; omega, fun i R G hR hG => ?_, ?_⟩
  · rcases Nat.lt_or_ge i Rs.length with hi | hi
    · rw [List.getElem?_append_left hi] at hR
      rw [List.getElem?_append_left (by simp; omega), List.getElem?_take_of_lt hi] at hG
      exact ha i R G (by rw [List.getElem?_append_left hi]; exact hR) hG
    · rw [List.getElem?_append_right hi] at hR
      rw [List.getElem?_append_right (by simp; omega), show (Fs.take Rs.length).length = Rs.length by simp; omega] at hG
      exact ⟨g2 _ R G hR hG, fun b hb => h2 b (by rw [g4]; exact mem_flat hG hb)⟩
  · rw [List.flatten_append]
    rw [e, List.flatten_append] at hn
    rw [show [F].flatten = F by simp, g4] at hn
    exact hn
theorem Sn.pick (h : Sn w W M) (k : Nat) {g hi : Nat} (hk : M k = some (rRd w g hi)) (hh : hi ≤ 549755813888) (m : Int) :
    Calls Try.prog 89 #[.pointer (some ⟨g, 0, none⟩), .int .i64 m] W fun e w' => ∃ x, e = .returned (.int .i64 x) ∧ InPick m x ∧ Sn w w' (fun i => if i = k then some (rRd w g (hi + 1)) else M i) := by
  obtain ⟨F, ⟨hF, p, A, n, c, xs, h1, h2, h3, h4⟩, hlo⟩ := h.get k hk
  have hg : w.heap.size ≤ g := hlo g (by rw [hF]; simp)
  have hR : Rdr W w.heap.size g p := ⟨hg, by omega, A, n, c, xs, h2, h3.below h.below, h4⟩
  refine (pick_any g w.heap.size p m W hR (by omega)).mono fun e w' ⟨⟨x, he, hx⟩, hgr, hr⟩ => ⟨x, he, hx, ?_⟩
  obtain ⟨-, -, A', n', c', ys, k1, k2, k3⟩ := hr
  have hb : Below w.heap.size W w' := (Below.refl _ _).grown hgr h.below.size (fun k hk => by cases hk; exact hg)
  have hrd : RdI .u8 w w.heap.size A' n' c' ys := ⟨k2.len, k2.cap, k2.capMax, k2.wf, fun hp => by
    obtain ⟨b, off, e, hbb, hc⟩ := k2.at_ hp
    exact ⟨b, off, e, hbb, fun i x hx => (bcells (h.below.trans hb) b _ hbb).symm.trans (hc i x hx)⟩⟩
  exact h.mod k hk fun F ⟨e, _⟩ _ => ⟨F, ⟨e, p + 1, A', n', c', ys, by omega, k1, hrd, k3⟩, fun b hb => .inl hb, by rw [e]; exact Only.of_grown hgr⟩
end
end Go.Proofs.Ytkebgldeahklmaa
