/- The draw of a book. Printed by gen_l20book.py. -/
import Derived.Test.YtkmcengmglgdeaaGreatDoorSPush
import Derived.Test.YtkmcengmglgdeaaGreatDoorSL20Act
import Derived.Test.YtkmcengmglgdeaaGreatDoorSTDraw2
import Derived.Test.YtkmcengmglgdeaaGreatDoorSRTask
import Derived.Test.YtkmcengmglgdeaaGreatDoorSDoS
namespace Go.Proofs.YtkmcengmglgdeaaGreatDoor
set_option linter.unusedVariables false
set_option linter.unusedSimpArgs false
open Go.ChangeShapes Go.WideShapes Go.ChangeAt Go.RowKit

theorem rT_spec_st (r s : Int) (w : World) (hs : (Lit.int .i64 s).wf = true) : Calls Tryz.prog 101 #[.int .i64 r, .int .i64 s] w (Gives w id fun v => [rTask v (ringsTask r s)]) :=
 (ringsTask_spec r s w hs).mono fun e w' ⟨⟨v, F, he, ho, hn⟩, hb⟩ => ⟨v, he, St.of_task ho hn hb⟩
/-- an act is drawn for a book of the list -/
theorem l20Act_rd {w W : World} {Rs : List HRes} {g hi : Nat} (S : St w W (rRd w g hi :: Rs)) (hh : hi ≤ 400000000000) (i : Nat) {v : Value} {b : BookD} (hi' : Rs[i]? = some (rBook v b)) :
  Calls Tryz.prog 102 #[.pointer (some ⟨g, 0, none⟩), v] W fun e w' => ∃ k m, e = .returned (.agg #[.int .i64 k, .int .i64 m]) ∧ (0 ≤ k ∧ k ≤ 7) ∧ (-10 ≤ m ∧ m ≤ 130) ∧ St w w' (rRd w g (hi + 8) :: Rs) := by
 refine (l20Act_rd1 (St.pack (Rs := [rRd w g hi]) (L := Rs) S) hh v b fun W' F hF => ?_).mono fun e w' ⟨k, m, h1, h2, h3, h4⟩ => ⟨k, m, h1, h2, h3, St.unpack (Rs := [rRd w g (hi + 8)]) (L := Rs) h4⟩
 obtain ⟨Fs, f1, f2, f3, f4⟩ := hF
 have hl : i < Fs.length := by rw [f1]; exact (List.getElem?_eq_some_iff.1 hi').1
 have hb : OwnB W' v b (Fs[i]) := f2 i _ _ hi' (List.getElem?_eq_getElem hl)
 exact hb.rd
/-- what a drawn book is, ahead of its spoiling -/
def BI (b : BookD) : Prop := bookOk b = true ∨ b = zeroB
theorem BI.do_ {b : BookD} (h : BI b) (a : ActD) : BI (bookDo b a) := by
 rcases h with h | h
 ·exact .inl (bookDo_ok a h)
 ·subst h
  cases hb : bookOk zeroB with
  | false => exact .inr (bookDo_bad hb).1
  | true => exact .inl (bookDo_ok a hb)
theorem BI.new (t : TaskD) : BI (bookNew t) := by
 cases h : taskOk t with
 | false => exact .inr (by unfold bookNew; rw [if_neg (by rw [h]; simp)]; rfl)
 | true =>
  refine .inl ?_
  rw [bookNew_yes t h]
  have hp := taskOk_parts t h
  have e : planRun t t.start [] = t.start := by unfold planRun; rw [if_pos ⟨h, (stIn_iff _).2 hp.1, by simp⟩]; simp only [runP, opt]; omega
  have := bookOk_mk (o := t) (d := []) (by rw [e]; exact hp.1.1)
  rwa [e] at this
theorem BI.bd {b : BookD} (h : BI b) : (0 ≤ b.state ∧ b.state < 32) ∧ b.done.length ≤ 40 ∧ (0 ≤ b.order.start ∧ b.order.start < 32) := by
 rcases h with h | h
 ·obtain ⟨h1, h2, h3, h4⟩ := bookOk_parts h
  exact ⟨h3, h2, (taskOk_parts _ h1).1⟩
 ·subst h; decide
set_option maxRecDepth 100000 in
set_option maxHeartbeats 4000000 in
theorem l20Book_rd1 {w W : World} {X : HRes} {g hi : Nat} (S : St w W [rRd w g hi, X]) (hh : hi ≤ 100000000000) (n : Int) :
  Calls Tryz.prog 42 #[.pointer (some ⟨g, 0, none⟩), .int .i64 n] W fun e w' => ∃ v b, e = .returned v ∧ St w w' [rRd w g (hi + 400), X, rBook v b] := by
 obtain ⟨r, hr⟩ : ∃ r, W.heap.size = r := ⟨_, rfl⟩
 have HS0 : Hid (St w (W.alloc (.cells #[.int .i64 0, .slice none 0 0, .slice none 0 0, .slice none 0 0, .int .i64 0] 28)) [rRd w g hi, X, rBlk r 28 #[.int .i64 0, .slice none 0 0, .slice none 0 0, .slice none 0 0, .int .i64 0]]) := Lib.hid (by rw [← hr]; exact S.alloc _ _)
 clear S
 go_enter Tryz.func42, Tryz.ntmps42
 go_wp2_with fail
 refine (l20Task_rd HS0.out (by omega) 0).mono ?_
 rintro e w1 ⟨v1, t, rfl, -, s1⟩
 have HS1 := Lib.hid s1
 clear s1 HS0
 go_wp2_with fail
 refine (bookNew_spec _ t _ (HS1.out.rdT 1 rfl)).mono ?_
 obtain ⟨b, hb⟩ : ∃ b, bookNew t = b := ⟨_, rfl⟩
 have HBI : Bx (BI b) := Bx.mk (hb ▸ BI.new t)
 rw [hb]
 rintro e w2 ⟨v2, rfl, s2⟩
 obtain ⟨B1, m1, d1, B2, m2, d2, B3, m3, d3, hv⟩ := s2.formB 0 rfl
 obtain ⟨os, hos⟩ : ∃ x, b.order.start = x := ⟨_, rfl⟩
 obtain ⟨st, hst⟩ : ∃ x, b.state = x := ⟨_, rfl⟩
 have HOS := Bx.mk hos
 have HST := Bx.mk hst
 rw [hos, hst] at hv
 simp only [id_eq] at hv ⊢
 subst hv
 obtain ⟨g5, hg5⟩ : ∃ x, w2.heap.size = x := ⟨_, rfl⟩
 have HS2 : Hid (St w (w2.alloc (.cells #[.int .i64 os, .slice B1 m1 d1, .slice B2 m2 d2, .slice B3 m3 d3, .int .i64 st] 28)) [rRd w g (hi + 200), X, rBlk r 28 #[.int .i64 0, .slice none 0 0, .slice none 0 0, .slice none 0 0, .int .i64 0], rBlk g5 28 #[.int .i64 os, .slice B1 m1 d1, .slice B2 m2 d2, .slice B3 m3 d3, .int .i64 st], rBook (.agg #[.int .i64 os, .slice B1 m1 d1, .slice B2 m2 d2, .slice B3 m3 d3, .int .i64 st]) b]) := Lib.hid (by
  rw [← hg5]
  exact ((HS1.out.call s2).alloc _ _).pick [0, 2, 3, 5, 4] (by decide) rfl rfl)
 clear s2 HS1 hb hos hst
 go_wp2_with fail
 refine (pick_rd HS2.out (by omega) 4).mono ?_
 rintro e w3 ⟨x3, rfl, -, s3⟩
 have HS3 : Hid (St w w3 [rRd w g (hi + 201), X, rBlk r 28 #[.int .i64 0, .slice none 0 0, .slice none 0 0, .slice none 0 0, .int .i64 0], rBlk g5 28 #[.int .i64 os, .slice B1 m1 d1, .slice B2 m2 d2, .slice B3 m3 d3, .int .i64 st], rBook (.agg #[.int .i64 os, .slice B1 m1 d1, .slice B2 m2 d2, .slice B3 m3 d3, .int .i64 st]) b]) := Lib.hid s3
 clear s3 HS2
 try rw [hr]
 try rw [hg5]
 clear hr hg5
 go_upto_if 14 with (fail)
 go_cut [5] (fun s5 wx => s5 = .pointer (some ⟨g5, 0, none⟩) ∧ ∃ (b : BookD) (os st : Int) (B1 : Option Addr) (m1 d1 : Nat) (B2 : Option Addr) (m2 d2 : Nat) (B3 : Option Addr) (m3 d3 : Nat), Bx (BI b) ∧ Bx (b.order.start = os) ∧ Bx (b.state = st) ∧ St w wx [rRd w g (hi + 205), X, rBlk r 28 #[.int .i64 0, .slice none 0 0, .slice none 0 0, .slice none 0 0, .int .i64 0], rBlk g5 28 #[.int .i64 os, .slice B1 m1 d1, .slice B2 m2 d2, .slice B3 m3 d3, .int .i64 st], rBook (.agg #[.int .i64 os, .slice B1 m1 d1, .slice B2 m2 d2, .slice B3 m3 d3, .int .i64 st]) b])
 case first =>
  by_cases h3 : x3 = 0
  ·subst h3
   go_wp2_with fail
   refine (pick_rd HS3.out (by omega) 5).mono ?_
   rintro e w4 ⟨y, rfl, ⟨y1, y2, -⟩, s4⟩
   have y3 := y2 (by omega)
   have HS4 : Hid (St w w4 [rRd w g (hi + 202), X, rBlk r 28 #[.int .i64 0, .slice none 0 0, .slice none 0 0, .slice none 0 0, .int .i64 0], rBlk g5 28 #[.int .i64 os, .slice B1 m1 d1, .slice B2 m2 d2, .slice B3 m3 d3, .int .i64 st], rBook (.agg #[.int .i64 os, .slice B1 m1 d1, .slice B2 m2 d2, .slice B3 m3 d3, .int .i64 st]) b]) := Lib.hid s4
   have hyw : IntKind.i64.wrap (1 + y) = 1 + y := by rw [IntKind.wrap_i64]; omega
   clear s4 y2 HS3
   go_wp2_with fail
   refine (rT_spec_st (1 + y) 0 _ (by decide)).mono ?_
   rintro e w5 ⟨v5, rfl, s5⟩
   have HS5 := Lib.hid (HS4.out.call s5)
   clear s5 HS4
   go_wp2_with fail
   refine (bookNew_spec _ (ringsTask (1 + y) 0) _ (HS5.out.rdT 5 rfl)).mono ?_
   obtain ⟨b', hb'⟩ : ∃ b, bookNew (ringsTask (1 + y) 0) = b := ⟨_, rfl⟩
   have HBI' : Bx (BI b') := Bx.mk (hb' ▸ BI.new _)
   rw [hb']
   rintro e w6 ⟨v6, rfl, s6⟩
   obtain ⟨N1, e1, u1, N2, e2, u2, N3, e3, u3, hv⟩ := s6.formB 0 rfl
   obtain ⟨ns, hns⟩ : ∃ x, b'.order.start = x := ⟨_, rfl⟩
   obtain ⟨nt, hnt⟩ : ∃ x, b'.state = x := ⟨_, rfl⟩
   have HNS := Bx.mk hns
   have HNT := Bx.mk hnt
   rw [hns, hnt] at hv
   simp only [id_eq] at hv ⊢
   subst hv
   have HS6 := Lib.hid (HS5.out.call s6)
   have q6 : ∀ j, w6.cell? ⟨g5, j, none⟩ = _ := HS6.out.cells 3 rfl
   have f6 := HS6.out.free 3 rfl
   clear s6 HS5 hb' hns hnt
   go_wp2
   have HS7 : Hid (St w (((((w6.setCell ⟨g5, 0, none⟩ (.int .i64 ns)).setCell ⟨g5, 1, none⟩ (.slice N1 e1 u1)).setCell ⟨g5, 2, none⟩ (.slice N2 e2 u2)).setCell ⟨g5, 3, none⟩ (.slice N3 e3 u3)).setCell ⟨g5, 4, none⟩ (.int .i64 nt)) [rRd w g (hi + 202), X, rBlk r 28 #[.int .i64 0, .slice none 0 0, .slice none 0 0, .slice none 0 0, .int .i64 0], rBlk g5 28 #[.int .i64 ns, .slice N1 e1 u1, .slice N2 e2 u2, .slice N3 e3 u3, .int .i64 nt], rBook (.agg #[.int .i64 ns, .slice N1 e1 u1, .slice N2 e2 u2, .slice N3 e3 u3, .int .i64 nt]) b']) := Lib.hid ((HS6.out.set5 3 rfl (.int .i64 ns) (.slice N1 e1 u1) (.slice N2 e2 u2) (.slice N3 e3 u3) (.int .i64 nt)).pick [0, 1, 2, 3, 6] (by decide) rfl rfl)
   go_meet
   case rel => exact ⟨rfl, b', ns, nt, _, _, _, _, _, _, _, _, _, HBI', HNS, HNT, HS7.out.more (by omega)⟩
  ·have h3' : (x3 == 0) = false := by simpa using h3
   clear h3
   go_wp2
   go_meet
   case rel => exact ⟨rfl, b, os, st, _, _, _, _, _, _, _, _, _, HBI, HOS, HST, HS3.out.more (by omega)⟩
 case rest =>
  obtain ⟨rfl, b, os, st, B1, m1, d1, B2, m2, d2, B3, m3, d3, HBI, HOS, HST, S4⟩ := hcut
  have HS4 := Lib.hid S4
  clear S4 HS3
  go_wp2_with fail
  refine (pick_rd HS4.out (by omega) 20).mono ?_
  rintro e w5 ⟨x5, rfl, ⟨a1, a2, -⟩, s5⟩
  have a3 := a2 (by omega)
  obtain ⟨k5, rfl⟩ := Int.eq_ofNat_of_zero_le a1
  have hk5 : k5 ≤ 19 := by omega
  have HS5 : Hid (St w w5 [rRd w g (hi + 210 + 8 * (19 - k5)), X, rBlk r 28 #[.int .i64 0, .slice none 0 0, .slice none 0 0, .slice none 0 0, .int .i64 0], rBlk g5 28 #[.int .i64 os, .slice B1 m1 d1, .slice B2 m2 d2, .slice B3 m3 d3, .int .i64 st], rBook (.agg #[.int .i64 os, .slice B1 m1 d1, .slice B2 m2 d2, .slice B3 m3 d3, .int .i64 st]) b]) := Lib.hid (s5.more (by omega))
  clear s5 a1 a2 a3 HS4
  go_wp2
  go_loopw [6] (fun kv wr => ∃ (k : Nat) (b : BookD) (os st : Int) (B1 : Option Addr) (m1 d1 : Nat) (B2 : Option Addr) (m2 d2 : Nat) (B3 : Option Addr) (m3 d3 : Nat), k ≤ 19 ∧ kv = .int .i64 k ∧ Bx (BI b) ∧ Bx (b.order.start = os) ∧ Bx (b.state = st) ∧ St w wr [rRd w g (hi + 210 + 8 * (19 - k)), X, rBlk r 28 #[.int .i64 0, .slice none 0 0, .slice none 0 0, .slice none 0 0, .int .i64 0], rBlk g5 28 #[.int .i64 os, .slice B1 m1 d1, .slice B2 m2 d2, .slice B3 m3 d3, .int .i64 st], rBook (.agg #[.int .i64 os, .slice B1 m1 d1, .slice B2 m2 d2, .slice B3 m3 d3, .int .i64 st]) b]) (fun kv _ => (intOf kv).toNat)
  case atStart => exact ⟨k5, b, os, st, _, _, _, _, _, _, _, _, _, hk5, rfl, HBI, HOS, HST, HS5.out⟩
  case round =>
   clear HS5 HBI HOS HST
   obtain ⟨k, b, os, st, B1, m1, d1, B2, m2, d2, B3, m3, d3, hk, rfl, HBI, HOS, HST, S⟩ := hrel
   have HS := Lib.hid S
   clear S
   by_cases hk0 : 0 < k
   ·have hk0i : (0 : Int) < (k : Int) := by omega
    go_upto_region 7 with (fail)
    refine wp_reg (σ := {p : Int × Int // (Lit.int .i64 p.2).wf = true} × ((Option Addr × Nat × Nat) × (Option Addr × Nat × Nat) × (Option Addr × Nat × Nat)) × Nat) (by kernel_rfl) (by kernel_rfl) (by kernel_rfl)
     (fun s i => match i with
      | 0 => .agg #[.int .i64 os, .slice B1 m1 d1, .slice B2 m2 d2, .slice B3 m3 d3, .int .i64 st]
      | 1 => .pointer (some ⟨g, 0, none⟩)
      | 2 => .agg #[.int .i64 os, .slice B1 m1 d1, .slice B2 m2 d2, .slice B3 m3 d3, .int .i64 st]
      | 3 => .agg #[.int .i64 s.1.1.1, .int .i64 s.1.1.2]
      | 4 => .tuple #[.agg #[.int .i64 (bookDo b ⟨s.1.1.1, s.1.1.2⟩).order.start, .slice s.2.1.1.1 s.2.1.1.2.1 s.2.1.1.2.2, .slice s.2.1.2.1.1 s.2.1.2.1.2.1 s.2.1.2.1.2.2, .slice s.2.1.2.2.1 s.2.1.2.2.2.1 s.2.1.2.2.2.2, .int .i64 (bookDo b ⟨s.1.1.1, s.1.1.2⟩).state], .bool (bookDid b ⟨s.1.1.1, s.1.1.2⟩)]
      | 5 => .tuple #[.agg #[.int .i64 (bookDo b ⟨s.1.1.1, s.1.1.2⟩).order.start, .slice s.2.1.1.1 s.2.1.1.2.1 s.2.1.1.2.2, .slice s.2.1.2.1.1 s.2.1.2.1.2.1 s.2.1.2.1.2.2, .slice s.2.1.2.2.1 s.2.1.2.2.2.1 s.2.1.2.2.2.2, .int .i64 (bookDo b ⟨s.1.1.1, s.1.1.2⟩).state], .bool (bookDid b ⟨s.1.1.1, s.1.1.2⟩)]
      | 6 => .agg #[.int .i64 (bookDo b ⟨s.1.1.1, s.1.1.2⟩).order.start, .slice s.2.1.1.1 s.2.1.1.2.1 s.2.1.1.2.2, .slice s.2.1.2.1.1 s.2.1.2.1.2.1 s.2.1.2.1.2.2, .slice s.2.1.2.2.1 s.2.1.2.2.2.1 s.2.1.2.2.2.2, .int .i64 (bookDo b ⟨s.1.1.1, s.1.1.2⟩).state]
      | 7 => .bool (bookDid b ⟨s.1.1.1, s.1.1.2⟩)
      | 8 => .pointer (some ⟨s.2.2, 0, none⟩)
      | 10 => .bool (bookDid b ⟨s.1.1.1, s.1.1.2⟩)
      | _ => undef)
     (fun D s wy => Sn w wy fun i => match i with
      | 0 => some (rRd w g (if D 3 = true then hi + 210 + 8 * (19 - k) + 8 else hi + 210 + 8 * (19 - k)))
      | 1 => some (X)
      | 2 => some (rBlk r 28 #[.int .i64 0, .slice none 0 0, .slice none 0 0, .slice none 0 0, .int .i64 0])
      | 3 => some (rBlk g5 28 #[.int .i64 os, .slice B1 m1 d1, .slice B2 m2 d2, .slice B3 m3 d3, .int .i64 st])
      | 4 => some (rBook (.agg #[.int .i64 os, .slice B1 m1 d1, .slice B2 m2 d2, .slice B3 m3 d3, .int .i64 st]) b)
      | 5 => if D 8 = true then some (rBlk s.2.2 28 (if D 9 = true then #[.int .i64 (bookDo b ⟨s.1.1.1, s.1.1.2⟩).order.start, .slice s.2.1.1.1 s.2.1.1.2.1 s.2.1.1.2.2, .slice s.2.1.2.1.1 s.2.1.2.1.2.1 s.2.1.2.1.2.2, .slice s.2.1.2.2.1 s.2.1.2.2.2.1 s.2.1.2.2.2.2, .int .i64 (bookDo b ⟨s.1.1.1, s.1.1.2⟩).state] else #[.int .i64 0, .slice none 0 0, .slice none 0 0, .slice none 0 0, .int .i64 0])) else none
      | 6 => if D 4 = true then some (rBook (.agg #[.int .i64 (bookDo b ⟨s.1.1.1, s.1.1.2⟩).order.start, .slice s.2.1.1.1 s.2.1.1.2.1 s.2.1.1.2.2, .slice s.2.1.2.1.1 s.2.1.2.1.2.1 s.2.1.2.1.2.2, .slice s.2.1.2.2.1 s.2.1.2.2.2.1 s.2.1.2.2.2.2, .int .i64 (bookDo b ⟨s.1.1.1, s.1.1.2⟩).state]) (bookDo b ⟨s.1.1.1, s.1.1.2⟩)) else none
      | _ => none)
     (⟨(0, 0), by decide⟩, ((none, 0, 0), (none, 0, 0), (none, 0, 0)), 0) ?_ ?_ ?_
    ·intro D hD
     refine ((Sn.of_st HS.out).quiet ((Below.refl _ _).drew)).congr fun i => ?_
     match i with
     | 0 => simp only [hD 3 (by decide)]; rfl
     | 1 => rfl
     | 2 => rfl
     | 3 => rfl
     | 4 => rfl
     | 5 => simp only [hD 8 (by decide)]; rfl
     | 6 => simp only [hD 4 (by decide)]; rfl
     | q + 7 => rfl
    ·refine StepAll.cons (fun D s wy hR (hDi : D 0 = false) hd hsh a' hs K hK => ?_) ?_
     ·have e5 := hs.old 5 (u := .pointer (some ⟨g5, 0, none⟩)) (by kernel_rfl) rfl
      clear hs
      have kb : Blk wy (g5) 28 #[.int .i64 os, .slice B1 m1 d1, .slice B2 m2 d2, .slice B3 m3 d3, .int .i64 st] := hR.blk 3 rfl
      have c0 : wy.cell? ⟨g5, 0, none⟩ = some (.int .i64 os) := kb.cell 0
      have c1 : wy.cell? ⟨g5, 1, none⟩ = some (.slice B1 m1 d1) := kb.cell 1
      have c2 : wy.cell? ⟨g5, 2, none⟩ = some (.slice B2 m2 d2) := kb.cell 2
      have c3 : wy.cell? ⟨g5, 3, none⟩ = some (.slice B3 m3 d3) := kb.cell 3
      have c4 : wy.cell? ⟨g5, 4, none⟩ = some (.int .i64 st) := kb.cell 4
      go_simp
      exact hK s wy (fun _ _ => rfl) hR
     refine StepAll.cons (fun D s wy hR (hDi : D 1 = false) hd hsh a' hs K hK => ?_) ?_
     ·have e0 := hs.old 0 (u := .pointer (some ⟨g, 0, none⟩)) (by kernel_rfl) rfl
      clear hs
      go_simp
      exact hK s wy (fun _ _ => rfl) hR
     refine StepAll.cons (fun D s wy hR (hDi : D 2 = false) hd hsh a' hs K hK => ?_) ?_
     ·have e5 := hs.old 5 (u := .pointer (some ⟨g5, 0, none⟩)) (by kernel_rfl) rfl
      clear hs
      have kb : Blk wy (g5) 28 #[.int .i64 os, .slice B1 m1 d1, .slice B2 m2 d2, .slice B3 m3 d3, .int .i64 st] := hR.blk 3 rfl
      have c0 : wy.cell? ⟨g5, 0, none⟩ = some (.int .i64 os) := kb.cell 0
      have c1 : wy.cell? ⟨g5, 1, none⟩ = some (.slice B1 m1 d1) := kb.cell 1
      have c2 : wy.cell? ⟨g5, 2, none⟩ = some (.slice B2 m2 d2) := kb.cell 2
      have c3 : wy.cell? ⟨g5, 3, none⟩ = some (.slice B3 m3 d3) := kb.cell 3
      have c4 : wy.cell? ⟨g5, 4, none⟩ = some (.int .i64 st) := kb.cell 4
      go_simp
      exact hK s wy (fun _ _ => rfl) hR
     refine StepAll.cons (fun D s wy hR (hDi : D 3 = false) hd hsh a' hs K hK => ?_) ?_
     ·have e28 := hs.g 1 28 (.pointer (some ⟨g, 0, none⟩)) (hd ⟨1, .data⟩ (by simp) rfl)
      have e29 := hs.g 2 29 (.agg #[.int .i64 os, .slice B1 m1 d1, .slice B2 m2 d2, .slice B3 m3 d3, .int .i64 st]) (hd ⟨2, .data⟩ (by simp) rfl)
      have g28 := getQ e28
      have g29 := getQ e29
      clear hs
      have n4 : D 4 = false := hsh.no hDi 4 rfl ⟨3, .data⟩ (by simp) rfl rfl
      have n5 : D 5 = false := hsh.no n4 5 rfl ⟨4, .data⟩ (by simp) rfl rfl
      have n6 : D 6 = false := hsh.no n5 6 rfl ⟨5, .data⟩ (by simp) rfl rfl
      have n7 : D 7 = false := hsh.no n5 7 rfl ⟨5, .data⟩ (by simp) rfl rfl
      have n9 : D 9 = false := hsh.no n6 9 rfl ⟨6, .data⟩ (by simp) rfl rfl
      have n10 : D 10 = false := hsh.no n7 10 rfl ⟨7, .data⟩ (by simp) rfl rfl
      go_simp
      cases h8 : D 8 with
      | true =>
       have s1 : St w wy (rRd w g (hi + 210 + 8 * (19 - k)) :: [X, rBlk r 28 #[.int .i64 0, .slice none 0 0, .slice none 0 0, .slice none 0 0, .int .i64 0], rBlk g5 28 #[.int .i64 os, .slice B1 m1 d1, .slice B2 m2 d2, .slice B3 m3 d3, .int .i64 st], rBook (.agg #[.int .i64 os, .slice B1 m1 d1, .slice B2 m2 d2, .slice B3 m3 d3, .int .i64 st]) b, rBlk s.2.2 28 #[.int .i64 0, .slice none 0 0, .slice none 0 0, .slice none 0 0, .int .i64 0]]) := hR.to_st [0, 1, 2, 3, 4, 5] (by decide) (by simp only [List.map, hDi, n9, h8] <;> rfl)
       refine (l20Act_rd s1 (by omega) 3 rfl).mono ?_
       rintro e2 w2 ⟨ak, am, rfl, hak, ham, s2⟩
       refine hK (⟨(ak, am), wf_i64_mk (by simp only; omega)⟩, s.2) w2
        (fun j hj => by
         match j, hj with
         | 0, hj => rfl
         | 1, hj => rfl
         | 2, hj => rfl
         | 3, hj => rw [hDi] at hj; cases hj
         | 4, hj => rw [n4] at hj; cases hj
         | 5, hj => rw [n5] at hj; cases hj
         | 6, hj => rw [n6] at hj; cases hj
         | 7, hj => rw [n7] at hj; cases hj
         | 8, hj => rfl
         | 9, hj => rw [n9] at hj; cases hj
         | 10, hj => rw [n10] at hj; cases hj
         | _ + 11, hj => rfl)
        ((Sn.of_st s2).congr (fun i => by
         match i with
         | 0 => rfl
         | 1 => rfl
         | 2 => rfl
         | 3 => rfl
         | 4 => rfl
         | 5 => (show (if D 8 = true then some (rBlk _ _ (if D 9 = true then _ else _)) else none) = _; rw [h8, n9] <;> rfl)
         | 6 => (show (if D 4 = true then _ else none) = none; rw [n4]; rfl)
         | q + 7 => rfl))
      | false =>
       have s1 : St w wy (rRd w g (hi + 210 + 8 * (19 - k)) :: [X, rBlk r 28 #[.int .i64 0, .slice none 0 0, .slice none 0 0, .slice none 0 0, .int .i64 0], rBlk g5 28 #[.int .i64 os, .slice B1 m1 d1, .slice B2 m2 d2, .slice B3 m3 d3, .int .i64 st], rBook (.agg #[.int .i64 os, .slice B1 m1 d1, .slice B2 m2 d2, .slice B3 m3 d3, .int .i64 st]) b]) := hR.to_st [0, 1, 2, 3, 4] (by decide) (by simp only [List.map, hDi, n9, h8] <;> rfl)
       refine (l20Act_rd s1 (by omega) 3 rfl).mono ?_
       rintro e2 w2 ⟨ak, am, rfl, hak, ham, s2⟩
       refine hK (⟨(ak, am), wf_i64_mk (by simp only; omega)⟩, s.2) w2
        (fun j hj => by
         match j, hj with
         | 0, hj => rfl
         | 1, hj => rfl
         | 2, hj => rfl
         | 3, hj => rw [hDi] at hj; cases hj
         | 4, hj => rw [n4] at hj; cases hj
         | 5, hj => rw [n5] at hj; cases hj
         | 6, hj => rw [n6] at hj; cases hj
         | 7, hj => rw [n7] at hj; cases hj
         | 8, hj => rfl
         | 9, hj => rw [n9] at hj; cases hj
         | 10, hj => rw [n10] at hj; cases hj
         | _ + 11, hj => rfl)
        ((Sn.of_st s2).congr (fun i => by
         match i with
         | 0 => rfl
         | 1 => rfl
         | 2 => rfl
         | 3 => rfl
         | 4 => rfl
         | 5 => (show (if D 8 = true then some (rBlk _ _ (if D 9 = true then _ else _)) else none) = _; rw [h8, n9] <;> rfl)
         | 6 => (show (if D 4 = true then _ else none) = none; rw [n4]; rfl)
         | q + 7 => rfl))
     refine StepAll.cons (fun D s wy hR (hDi : D 4 = false) hd hsh a' hs K hK => ?_) ?_
     ·have e27 := hs.g 0 27 (.agg #[.int .i64 os, .slice B1 m1 d1, .slice B2 m2 d2, .slice B3 m3 d3, .int .i64 st]) (hd ⟨0, .data⟩ (by simp) rfl)
      have e30 := hs.g 3 30 (.agg #[.int .i64 s.1.1.1, .int .i64 s.1.1.2]) (hd ⟨3, .data⟩ (by simp) rfl)
      have g27 := getQ e27
      have g30 := getQ e30
      clear hs
      have n5 : D 5 = false := hsh.no hDi 5 rfl ⟨4, .data⟩ (by simp) rfl rfl
      have n6 : D 6 = false := hsh.no n5 6 rfl ⟨5, .data⟩ (by simp) rfl rfl
      have n7 : D 7 = false := hsh.no n5 7 rfl ⟨5, .data⟩ (by simp) rfl rfl
      have n9 : D 9 = false := hsh.no n6 9 rfl ⟨6, .data⟩ (by simp) rfl rfl
      have n10 : D 10 = false := hsh.no n7 10 rfl ⟨7, .data⟩ (by simp) rfl rfl
      go_simp
      refine (bookDo_spec _ b s.1.1.1 s.1.1.2 _ (hR.rdB 4 rfl) s.1.2).mono ?_
      rintro e2 w2 ⟨v2, rfl, s2⟩
      obtain ⟨A1, n1, c1, A2, n2, c2, A3, n3, c3, hv⟩ := s2.formB 0 rfl
      subst hv
      refine hK (s.1, ((A1, n1, c1), (A2, n2, c2), (A3, n3, c3)), s.2.2) w2
       (fun j hj => by
        match j, hj with
        | 0, hj => rfl
        | 1, hj => rfl
        | 2, hj => rfl
        | 3, hj => rfl
        | 4, hj => rw [hDi] at hj; cases hj
        | 5, hj => rw [n5] at hj; cases hj
        | 6, hj => rw [n6] at hj; cases hj
        | 7, hj => rw [n7] at hj; cases hj
        | 8, hj => rfl
        | 9, hj => rw [n9] at hj; cases hj
        | 10, hj => rw [n10] at hj; cases hj
        | _ + 11, hj => rfl)
       ((hR.add 6 (if_neg (by rw [hDi]; simp)) s2).congr
        (fun i => by
         match i with
         | 0 => rfl
         | 1 => rfl
         | 2 => rfl
         | 3 => rfl
         | 4 => rfl
         | 5 => (show (if D 8 = true then some (rBlk _ _ (if D 9 = true then _ else _)) else none) = (if D 8 = true then some (rBlk _ _ (if D 9 = true then _ else _)) else none); rw [n9] <;> rfl)
         | 6 => rfl
         | q + 7 => exact (if_neg (show ¬ (q + 7 = 6) by omega)).symm))
     refine StepAll.cons (fun D s wy hR (hDi : D 5 = false) hd hsh a' hs K hK => ?_) ?_
     ·have e31 := hs.g 4 31 (.tuple #[.agg #[.int .i64 (bookDo b ⟨s.1.1.1, s.1.1.2⟩).order.start, .slice s.2.1.1.1 s.2.1.1.2.1 s.2.1.1.2.2, .slice s.2.1.2.1.1 s.2.1.2.1.2.1 s.2.1.2.1.2.2, .slice s.2.1.2.2.1 s.2.1.2.2.2.1 s.2.1.2.2.2.2, .int .i64 (bookDo b ⟨s.1.1.1, s.1.1.2⟩).state], .bool (bookDid b ⟨s.1.1.1, s.1.1.2⟩)]) (hd ⟨4, .data⟩ (by simp) rfl)
      clear hs
      go_simp
      exact hK s wy (fun _ _ => rfl) hR
     refine StepAll.cons (fun D s wy hR (hDi : D 6 = false) hd hsh a' hs K hK => ?_) ?_
     ·have e26 := hs.g 5 26 (.tuple #[.agg #[.int .i64 (bookDo b ⟨s.1.1.1, s.1.1.2⟩).order.start, .slice s.2.1.1.1 s.2.1.1.2.1 s.2.1.1.2.2, .slice s.2.1.2.1.1 s.2.1.2.1.2.1 s.2.1.2.1.2.2, .slice s.2.1.2.2.1 s.2.1.2.2.2.1 s.2.1.2.2.2.2, .int .i64 (bookDo b ⟨s.1.1.1, s.1.1.2⟩).state], .bool (bookDid b ⟨s.1.1.1, s.1.1.2⟩)]) (hd ⟨5, .data⟩ (by simp) rfl)
      clear hs
      go_simp
      exact hK s wy (fun _ _ => rfl) hR
     refine StepAll.cons (fun D s wy hR (hDi : D 7 = false) hd hsh a' hs K hK => ?_) ?_
     ·have e26 := hs.g 5 26 (.tuple #[.agg #[.int .i64 (bookDo b ⟨s.1.1.1, s.1.1.2⟩).order.start, .slice s.2.1.1.1 s.2.1.1.2.1 s.2.1.1.2.2, .slice s.2.1.2.1.1 s.2.1.2.1.2.1 s.2.1.2.1.2.2, .slice s.2.1.2.2.1 s.2.1.2.2.2.1 s.2.1.2.2.2.2, .int .i64 (bookDo b ⟨s.1.1.1, s.1.1.2⟩).state], .bool (bookDid b ⟨s.1.1.1, s.1.1.2⟩)]) (hd ⟨5, .data⟩ (by simp) rfl)
      clear hs
      go_simp
      exact hK s wy (fun _ _ => rfl) hR
     refine StepAll.cons (fun D s wy hR (hDi : D 8 = false) hd hsh a' hs K hK => ?_) ?_
     ·clear hs
      have n9 : D 9 = false := hsh.no hDi 9 rfl ⟨8, .data⟩ (by simp) rfl rfl
      go_simp
      refine hK (s.1, s.2.1, wy.heap.size) _
       (fun j hj => by
        match j, hj with
        | 0, hj => rfl
        | 1, hj => rfl
        | 2, hj => rfl
        | 3, hj => rfl
        | 4, hj => rfl
        | 5, hj => rfl
        | 6, hj => rfl
        | 7, hj => rfl
        | 8, hj => rw [hDi] at hj; cases hj
        | 9, hj => rfl
        | 10, hj => rfl
        | _ + 11, hj => rfl)
       ((hR.add 5 (if_neg (by rw [hDi]; simp)) (St.new1 wy #[.int .i64 0, .slice none 0 0, .slice none 0 0, .slice none 0 0, .int .i64 0] 28)).congr
        (fun i => by
         match i with
         | 0 => rfl
         | 1 => rfl
         | 2 => rfl
         | 3 => rfl
         | 4 => rfl
         | 5 => (show some (rBlk _ _ (if D 9 = true then _ else _)) = some (rBlk _ _ _); rw [n9] <;> rfl)
         | 6 => rfl
         | q + 7 => exact (if_neg (show ¬ (q + 7 = 5) by omega)).symm))
     refine StepAll.cons (fun D s wy hR (hDi : D 9 = false) hd hsh a' hs K hK => ?_) ?_
     ·have e7 := hs.g 8 7 (.pointer (some ⟨s.2.2, 0, none⟩)) (hd ⟨8, .data⟩ (by simp) rfl)
      have e32 := hs.g 6 32 (.agg #[.int .i64 (bookDo b ⟨s.1.1.1, s.1.1.2⟩).order.start, .slice s.2.1.1.1 s.2.1.1.2.1 s.2.1.1.2.2, .slice s.2.1.2.1.1 s.2.1.2.1.2.1 s.2.1.2.1.2.2, .slice s.2.1.2.2.1 s.2.1.2.2.2.1 s.2.1.2.2.2.2, .int .i64 (bookDo b ⟨s.1.1.1, s.1.1.2⟩).state]) (hd ⟨6, .data⟩ (by simp) rfl)
      clear hs
      have dA : D 8 = true := hd ⟨8, .data⟩ (by simp) rfl
      have kb : Blk wy s.2.2 28 #[.int .i64 0, .slice none 0 0, .slice none 0 0, .slice none 0 0, .int .i64 0] := hR.blk 5 (by simp only [dA, hDi] <;> rfl)
      have f0 := kb.frozen
      have c0 : wy.cell? ⟨s.2.2, 0, none⟩ = some (.int .i64 0) := kb.cell 0
      have c1 : wy.cell? ⟨s.2.2, 1, none⟩ = some (.slice none 0 0) := kb.cell 1
      have c2 : wy.cell? ⟨s.2.2, 2, none⟩ = some (.slice none 0 0) := kb.cell 2
      have c3 : wy.cell? ⟨s.2.2, 3, none⟩ = some (.slice none 0 0) := kb.cell 3
      have c4 : wy.cell? ⟨s.2.2, 4, none⟩ = some (.int .i64 0) := kb.cell 4
      go_simp
      exact hK s _ (fun _ _ => rfl) ((hR.set5 5 (by simp only [dA, hDi]; rfl) _ _ _ _ _).congr
        (fun i => by
         match i with
         | 0 => rfl
         | 1 => rfl
         | 2 => rfl
         | 3 => rfl
         | 4 => rfl
         | 5 => (show (if D 8 = true then some (rBlk _ _ _) else none) = some (rBlk _ _ _); rw [dA]; rfl)
         | 6 => rfl
         | q + 7 => exact (if_neg (show ¬ (q + 7 = 5) by omega)).symm))
     refine StepAll.cons (fun D s wy hR (hDi : D 10 = false) hd hsh a' hs K hK => ?_) ?_
     ·have e33 := hs.g 7 33 (.bool (bookDid b ⟨s.1.1.1, s.1.1.2⟩)) (hd ⟨7, .data⟩ (by simp) rfl)
      clear hs
      go_simp
      exact hK s wy (fun _ _ => rfl) hR
     exact StepAll.nil
    ·intro D s wy hR hD
     simp only [putA, Act.put, List.setIfInBounds_toArray, List.set_cons_zero, List.set_cons_succ]
     obtain ⟨⟨⟨ak, am⟩, haw⟩, ⟨⟨N1, e1, u1⟩, ⟨N2, e2, u2⟩, ⟨N3, e3, u3⟩⟩, g7⟩ := s
     obtain ⟨nb, hnb⟩ : ∃ x, bookDo b ⟨ak, am⟩ = x := ⟨_, rfl⟩
     obtain ⟨did, hdid⟩ : ∃ x, bookDid b ⟨ak, am⟩ = x := ⟨_, rfl⟩
     obtain ⟨ns, hns⟩ : ∃ x, nb.order.start = x := ⟨_, rfl⟩
     obtain ⟨nt, hnt⟩ : ∃ x, nb.state = x := ⟨_, rfl⟩
     have HNS := Bx.mk hns
     have HNT := Bx.mk hnt
     have HBI2 : Bx (BI nb) := Bx.mk (hnb ▸ HBI.out.do_ _)
     have HS7' := hR.to_st [0, 1, 2, 3, 4, 6, 5] (L := [rRd w g (hi + 210 + 8 * (19 - k) + 8), X, rBlk r 28 #[.int .i64 0, .slice none 0 0, .slice none 0 0, .slice none 0 0, .int .i64 0], rBlk g5 28 #[.int .i64 os, .slice B1 m1 d1, .slice B2 m2 d2, .slice B3 m3 d3, .int .i64 st], rBook (.agg #[.int .i64 os, .slice B1 m1 d1, .slice B2 m2 d2, .slice B3 m3 d3, .int .i64 st]) b, rBook (.agg #[.int .i64 (bookDo b ⟨ak, am⟩).order.start, .slice N1 e1 u1, .slice N2 e2 u2, .slice N3 e3 u3, .int .i64 (bookDo b ⟨ak, am⟩).state]) (bookDo b ⟨ak, am⟩), rBlk g7 28 #[.int .i64 (bookDo b ⟨ak, am⟩).order.start, .slice N1 e1 u1, .slice N2 e2 u2, .slice N3 e3 u3, .int .i64 (bookDo b ⟨ak, am⟩).state]]) (by decide) (by simp only [List.map, hD 3 (by decide), hD 4 (by decide), hD 8 (by decide), hD 9 (by decide)] <;> rfl)
     simp only [hnb, hns, hnt] at HS7'
     have HS7 := Lib.hid HS7'
     simp only [hnb, hdid, hns, hnt]
     clear hR hD HS HS7' hnb hdid hns hnt
     have q7 : ∀ j, wy.cell? ⟨g5, j, none⟩ = _ := HS7.out.cells 3 rfl
     have q8 : ∀ j, wy.cell? ⟨g7, j, none⟩ = _ := HS7.out.cells 6 rfl
     have f7 := HS7.out.free 3 rfl
     cases did with
     | false =>
      have HS8 : Hid (St w wy [rRd w g (hi + 210 + 8 * (19 - k) + 8), X, rBlk r 28 #[.int .i64 0, .slice none 0 0, .slice none 0 0, .slice none 0 0, .int .i64 0], rBlk g5 28 #[.int .i64 os, .slice B1 m1 d1, .slice B2 m2 d2, .slice B3 m3 d3, .int .i64 st], rBook (.agg #[.int .i64 os, .slice B1 m1 d1, .slice B2 m2 d2, .slice B3 m3 d3, .int .i64 st]) b]) := Lib.hid (HS7.out.pick [0, 1, 2, 3, 4] (by decide) rfl rfl)
      go_wp2
      go_roundw
      case rel => exact ⟨k - 1, b, os, st, _, _, _, _, _, _, _, _, _, by omega, by go_num, HBI, HOS, HST, HS8.out.more (by omega)⟩
      case measure => simp [intOf]; omega
     | true =>
      have HS8 : Hid (St w (((((wy.setCell ⟨g5, 0, none⟩ (.int .i64 ns)).setCell ⟨g5, 1, none⟩ (.slice N1 e1 u1)).setCell ⟨g5, 2, none⟩ (.slice N2 e2 u2)).setCell ⟨g5, 3, none⟩ (.slice N3 e3 u3)).setCell ⟨g5, 4, none⟩ (.int .i64 nt)) [rRd w g (hi + 210 + 8 * (19 - k) + 8), X, rBlk r 28 #[.int .i64 0, .slice none 0 0, .slice none 0 0, .slice none 0 0, .int .i64 0], rBlk g5 28 #[.int .i64 ns, .slice N1 e1 u1, .slice N2 e2 u2, .slice N3 e3 u3, .int .i64 nt], rBook (.agg #[.int .i64 ns, .slice N1 e1 u1, .slice N2 e2 u2, .slice N3 e3 u3, .int .i64 nt]) nb]) := Lib.hid ((HS7.out.set5 3 rfl (.int .i64 ns) (.slice N1 e1 u1) (.slice N2 e2 u2) (.slice N3 e3 u3) (.int .i64 nt)).pick [0, 1, 2, 3, 5] (by decide) rfl rfl)
      go_wp2
      go_roundw
      case rel => exact ⟨k - 1, nb, ns, nt, _, _, _, _, _, _, _, _, _, by omega, by go_num, HBI2, HNS, HNT, HS8.out.more (by omega)⟩
      case measure => simp [intOf]; omega
   ·obtain rfl : k = 0 := by omega
    obtain ⟨hbs, hbd, hbo⟩ := HBI.out.bd
    rw [HST.out] at hbs
    rw [HOS.out] at hbo
    go_wp2_with fail
    refine (odd_rd HS.out (by omega) n).mono ?_
    rintro e w6 ⟨bo, rfl, s6⟩
    have HS6 : Hid (St w w6 [rRd w g (hi + 370), X, rBlk r 28 #[.int .i64 0, .slice none 0 0, .slice none 0 0, .slice none 0 0, .int .i64 0], rBlk g5 28 #[.int .i64 os, .slice B1 m1 d1, .slice B2 m2 d2, .slice B3 m3 d3, .int .i64 st], rBook (.agg #[.int .i64 os, .slice B1 m1 d1, .slice B2 m2 d2, .slice B3 m3 d3, .int .i64 st]) b]) := Lib.hid (s6.more (by omega))
    clear s6 HS
    cases bo with
    | false =>
     have qa : ∀ j, w6.cell? ⟨g5, j, none⟩ = _ := HS6.out.cells 3 rfl
     have qb : ∀ j, w6.cell? ⟨r, j, none⟩ = _ := HS6.out.cells 2 rfl
     have fb := HS6.out.free 2 rfl
     go_wp2
     refine bodyPost_ret (v := .agg #[.int .i64 os, .slice B1 m1 d1, .slice B2 m2 d2, .slice B3 m3 d3, .int .i64 st]) (by simp [results, Tryz.results42, go_sem, qb]) rfl ⟨_, b, rfl, ?_⟩
     exact ((HS6.out.set5 2 rfl _ _ _ _ _).pick (L' := [rRd w g (hi + 370), X, rBook (.agg #[.int .i64 os, .slice B1 m1 d1, .slice B2 m2 d2, .slice B3 m3 d3, .int .i64 st]) b]) [0, 1, 4] (by decide) rfl rfl).more (by omega)
    | true =>
     go_wp2_with fail
     refine (pick_rd HS6.out (by omega) 4).mono ?_
     rintro e w7 ⟨y, rfl, ⟨y1, y2, -⟩, s7⟩
     have y3 := y2 (by omega)
     have HS7 : Hid (St w w7 [rRd w g (hi + 371), X, rBlk r 28 #[.int .i64 0, .slice none 0 0, .slice none 0 0, .slice none 0 0, .int .i64 0], rBlk g5 28 #[.int .i64 os, .slice B1 m1 d1, .slice B2 m2 d2, .slice B3 m3 d3, .int .i64 st], rBook (.agg #[.int .i64 os, .slice B1 m1 d1, .slice B2 m2 d2, .slice B3 m3 d3, .int .i64 st]) b]) := Lib.hid s7
     have q7 : ∀ j, w7.cell? ⟨g5, j, none⟩ = _ := HS7.out.cells 3 rfl
     have f7 := HS7.out.free 3 rfl
     clear s7 HS6 y2
     by_cases hy0 : y = 0
     ·subst hy0
      go_wp2_with fail
      refine (l1Other_any st 1 hbs.1 (by omega) (by omega) (by omega) _).mono ?_
      rintro e w8 ⟨rfl, rfl⟩
      obtain ⟨z, hz⟩ : ∃ z, (st.toNat ^^^ (1 : Int).toNat) = z := ⟨_, rfl⟩
      have hz64 : z < 64 := by
       rw [← hz]
       exact Nat.xor_lt_two_pow (n := 6) (by omega) (by decide)
      rw [hz]
      have hzw : (Lit.int .i64 (z : Int)).wf = true := wf_i64_mk (by omega)
      clear hz
      go_upto_region 19 with (fail)
      have HS8 : Hid (St w (w7.setCell ⟨g5, 4, none⟩ (.int .i64 (z : Int))) [rRd w g (hi + 371), X, rBlk r 28 #[.int .i64 0, .slice none 0 0, .slice none 0 0, .slice none 0 0, .int .i64 0], rBlk g5 28 #[.int .i64 os, .slice B1 m1 d1, .slice B2 m2 d2, .slice B3 m3 d3, .int .i64 (z : Int)], rBook (.agg #[.int .i64 os, .slice B1 m1 d1, .slice B2 m2 d2, .slice B3 m3 d3, .int .i64 st]) b]) := Lib.hid (HS7.out.set 3 rfl 4 _)
      have HS9 : Hid (St w (w7.setCell ⟨g5, 4, none⟩ (.int .i64 (z : Int))) [rRd w g (hi + 371), X, rBlk r 28 #[.int .i64 0, .slice none 0 0, .slice none 0 0, .slice none 0 0, .int .i64 0], rBlk g5 28 #[.int .i64 os, .slice B1 m1 d1, .slice B2 m2 d2, .slice B3 m3 d3, .int .i64 (z : Int)], rBook (.agg #[.int .i64 os, .slice B1 m1 d1, .slice B2 m2 d2, .slice B3 m3 d3, .int .i64 (z : Int)]) ⟨b.order, b.done, (z : Int)⟩]) := Lib.hid (((((HS8.out.bring 4 rfl).unbook).book' HOS.out (by omega) hzw).perm (show List.Perm _ [rRd w g (hi + 371), X, rBlk r 28 #[.int .i64 0, .slice none 0 0, .slice none 0 0, .slice none 0 0, .int .i64 0], rBlk g5 28 #[.int .i64 os, .slice B1 m1 d1, .slice B2 m2 d2, .slice B3 m3 d3, .int .i64 (z : Int)], rBook (.agg #[.int .i64 os, .slice B1 m1 d1, .slice B2 m2 d2, .slice B3 m3 d3, .int .i64 (z : Int)]) ⟨b.order, b.done, (z : Int)⟩] from List.perm_append_comm (l₁ := [_]) (l₂ := [_, _, _, _]))))
      clear HS7 HS8 q7 f7
      obtain ⟨w9, hw9⟩ : ∃ x, w7.setCell ⟨g5, 4, none⟩ (.int .i64 (z : Int)) = x := ⟨_, rfl⟩
      rw [hw9] at HS9 ⊢
      clear hw9
      have qa : ∀ j, w9.cell? ⟨g5, j, none⟩ = _ := HS9.out.cells 3 rfl
      have qb : ∀ j, w9.cell? ⟨r, j, none⟩ = _ := HS9.out.cells 2 rfl
      have fb := HS9.out.free 2 rfl
      go_wp2
      refine bodyPost_ret (v := .agg #[.int .i64 os, .slice B1 m1 d1, .slice B2 m2 d2, .slice B3 m3 d3, .int .i64 (z : Int)]) (by simp [results, Tryz.results42, go_sem, qb]) rfl ⟨_, ⟨b.order, b.done, (z : Int)⟩, rfl, ?_⟩
      exact ((HS9.out.set5 2 rfl _ _ _ _ _).pick (L' := [rRd w g (hi + 371), X, rBook (.agg #[.int .i64 os, .slice B1 m1 d1, .slice B2 m2 d2, .slice B3 m3 d3, .int .i64 (z : Int)]) ⟨b.order, b.done, (z : Int)⟩]) [0, 1, 4] (by decide) rfl rfl).more (by omega)
     have hy0' : (y == 0) = false := by simpa using hy0
     by_cases hy1 : y = 1
     ·subst hy1
      clear hy0 hy0'
      have hm3 : m3 = b.done.length := ((HS7.out.rdB 4 rfl).done).1.len.symm
      have HM3 := Lib.hid hm3
      have hm340 : m3 ≤ 40 := by omega
      clear hm3
      have SU := ((HS7.out.bring 4 rfl).unbook)
      have HSU : Hid (St w (w7.alloc (.cells #[.int .i64 6] 3)) [rTask (.agg #[.int .i64 os, .slice B1 m1 d1, .slice B2 m2 d2]) b.order, rInts (.slice B3 m3 d3) b.done, rRd w g (hi + 371), X, rBlk r 28 #[.int .i64 0, .slice none 0 0, .slice none 0 0, .slice none 0 0, .int .i64 0], rBlk g5 28 #[.int .i64 os, .slice B1 m1 d1, .slice B2 m2 d2, .slice B3 m3 d3, .int .i64 st]]) := Lib.hid ((SU.alloc #[.int .i64 6] 3).pick [0, 1, 2, 3, 4, 5] (by decide) rfl rfl)
      have HO : Hid (w7.ownsRow 0 3 1 (.slice B3 m3 d3) m3 (ints b.done)) := Lib.hid (by have := SU.ownI 1 rfl; rw [← HM3.out] at this; exact this)
      clear SU
      go_upto_region 16 with (fail)
      go_wp2_with (at_builtin; refine wp_app elInt rfl _ _ rfl 0 (.slice B3 m3 d3) m3 (ints b.done) rfl (HO.out.alloc _) _ _ 1 1 [.int .i64 6] rfl (RdRow.new w7 [.int .i64 6] 3 1 1 rfl (by unfold maxLen; omega)) (by simp [Value.oneCell']) (by omega) (by omega) (Nat.zero_le _) ?_; intro v8 w8 hown8 hg8 hat8; obtain ⟨A8, c8, hv8⟩ := own_form hown8; subst hv8; have HS8 : Hid (St w w8 [rTask (.agg #[.int .i64 os, .slice B1 m1 d1, .slice B2 m2 d2]) b.order, rInts (.slice A8 (m3 + 1) c8) (b.done ++ [6]), rRd w g (hi + 371), X, rBlk r 28 #[.int .i64 0, .slice none 0 0, .slice none 0 0, .slice none 0 0, .int .i64 0], rBlk g5 28 #[.int .i64 os, .slice B1 m1 d1, .slice B2 m2 d2, .slice B3 m3 d3, .int .i64 st]]) := Lib.hid (HSU.out.appI (ys := [6]) 1 rfl (by rw [HM3.out]; rfl) hown8 (by decide) hg8 hat8); have q8 : w8.cell? ⟨g5, 3, none⟩ = some (.slice B3 m3 d3) := HS8.out.cells 5 rfl 3; have f8 := HS8.out.free 5 rfl; have HS9 : Hid (St w (w8.setCell ⟨g5, 3, none⟩ (.slice A8 (m3 + 1) c8)) [rRd w g (hi + 371), X, rBlk r 28 #[.int .i64 0, .slice none 0 0, .slice none 0 0, .slice none 0 0, .int .i64 0], rBlk g5 28 #[.int .i64 os, .slice B1 m1 d1, .slice B2 m2 d2, .slice A8 (m3 + 1) c8, .int .i64 st], rBook (.agg #[.int .i64 os, .slice B1 m1 d1, .slice B2 m2 d2, .slice A8 (m3 + 1) c8, .int .i64 st]) ⟨b.order, b.done ++ [6], st⟩]) := Lib.hid (((HS8.out.set 5 rfl 3 (.slice A8 (m3 + 1) c8)).book' HOS.out (by simp; omega) (wf_i64_mk (by omega))).perm (show List.Perm _ [rRd w g (hi + 371), X, rBlk r 28 #[.int .i64 0, .slice none 0 0, .slice none 0 0, .slice none 0 0, .int .i64 0], rBlk g5 28 #[.int .i64 os, .slice B1 m1 d1, .slice B2 m2 d2, .slice A8 (m3 + 1) c8, .int .i64 st], rBook (.agg #[.int .i64 os, .slice B1 m1 d1, .slice B2 m2 d2, .slice A8 (m3 + 1) c8, .int .i64 st]) ⟨b.order, b.done ++ [6], st⟩] from List.perm_append_comm (l₁ := [_]) (l₂ := [_, _, _, _]))); have qa : ∀ j, (w8.setCell ⟨g5, 3, none⟩ (.slice A8 (m3 + 1) c8)).cell? ⟨g5, j, none⟩ = _ := HS9.out.cells 3 rfl; have qb : ∀ j, (w8.setCell ⟨g5, 3, none⟩ (.slice A8 (m3 + 1) c8)).cell? ⟨r, j, none⟩ = _ := HS9.out.cells 2 rfl; have fb := HS9.out.free 2 rfl; clear hown8 hg8 hat8 HSU HO HS8)
      refine bodyPost_ret (v := .agg #[.int .i64 os, .slice B1 m1 d1, .slice B2 m2 d2, .slice A8 (m3 + 1) c8, .int .i64 st]) (by simp [results, Tryz.results42, go_sem, qb]) rfl ⟨_, ⟨b.order, b.done ++ [6], st⟩, rfl, ?_⟩
      exact ((HS9.out.set5 2 rfl _ _ _ _ _).pick (L' := [rRd w g (hi + 371), X, rBook (.agg #[.int .i64 os, .slice B1 m1 d1, .slice B2 m2 d2, .slice A8 (m3 + 1) c8, .int .i64 st]) ⟨b.order, b.done ++ [6], st⟩]) [0, 1, 4] (by decide) rfl rfl).more (by omega)
     have hy1' : (y == 1) = false := by simpa using hy1
     by_cases hy2 : y = 2
     ·subst hy2
      clear hy0 hy0' hy1 hy1'
      have qb : ∀ j, w7.cell? ⟨r, j, none⟩ = _ := HS7.out.cells 2 rfl
      have fb := HS7.out.free 2 rfl
      go_wp2
      refine bodyPost_ret (v := .agg #[.int .i64 0, .slice none 0 0, .slice none 0 0, .slice none 0 0, .int .i64 0]) (by simp [results, Tryz.results42, go_sem, qb]) rfl ⟨_, zeroB, rfl, ?_⟩
      exact (((HS7.out.set5 2 rfl _ _ _ _ _).call (St.book0 (Below.refl _ _))).pick (L' := [rRd w g (hi + 371), X, rBook (.agg #[.int .i64 0, .slice none 0 0, .slice none 0 0, .slice none 0 0, .int .i64 0]) zeroB]) [0, 1, 5] (by decide) rfl rfl).more (by omega)
     have hy2' : (y == 2) = false := by simpa using hy2
     clear hy0 hy1 hy2
     obtain ⟨gg, hgg⟩ : ∃ x, w7.heap.size = x := ⟨_, rfl⟩
     have SU := (((HS7.out.bring 4 rfl).unbook).untask)
     have HSU : Hid (St w (w7.alloc (.cells #[] 3)) [rInts (.slice (some ⟨gg, 0, none⟩) 0 0) [], rDeeds (.slice B2 m2 d2) b.order.deeds, rInts (.slice B3 m3 d3) b.done, rRd w g (hi + 371), X, rBlk r 28 #[.int .i64 0, .slice none 0 0, .slice none 0 0, .slice none 0 0, .int .i64 0], rBlk g5 28 #[.int .i64 os, .slice B1 m1 d1, .slice B2 m2 d2, .slice B3 m3 d3, .int .i64 st]]) := Lib.hid ((SU.call (St.newI w7 gg hgg.symm)).pick [7, 1, 2, 3, 4, 5, 6] (by decide) rfl rfl)
     clear SU
     have q8 : ∀ j, (w7.alloc (.cells #[] 3)).cell? ⟨g5, j, none⟩ = _ := HSU.out.cells 6 rfl
     have f8 := HSU.out.free 6 rfl
     go_upto_region 19 with (fail)
     try rw [hgg]
     have T1 : St w ((w7.alloc (.cells #[] 3)).setCell ⟨g5, 1, none⟩ (.slice (some ⟨gg, 0, none⟩) 0 0)) (rTask (.agg #[.int .i64 os, .slice (some ⟨gg, 0, none⟩) 0 0, .slice B2 m2 d2]) ⟨os, [], b.order.deeds⟩ :: rInts (.slice B3 m3 d3) b.done :: [rRd w g (hi + 371), X, rBlk r 28 #[.int .i64 0, .slice none 0 0, .slice none 0 0, .slice none 0 0, .int .i64 0], rBlk g5 28 #[.int .i64 os, .slice (some ⟨gg, 0, none⟩) 0 0, .slice B2 m2 d2, .slice B3 m3 d3, .int .i64 st]]) := (HSU.out.set 6 rfl 1 (.slice (some ⟨gg, 0, none⟩) 0 0)).task (by simp) (wf_i64_mk (by omega))
     have T2 := T1.book' (o := ⟨os, [], b.order.deeds⟩) (done := b.done) (st := st) rfl (by omega) (wf_i64_mk (by omega))
     have HS9 : Hid (St w ((w7.alloc (.cells #[] 3)).setCell ⟨g5, 1, none⟩ (.slice (some ⟨gg, 0, none⟩) 0 0)) [rRd w g (hi + 371), X, rBlk r 28 #[.int .i64 0, .slice none 0 0, .slice none 0 0, .slice none 0 0, .int .i64 0], rBlk g5 28 #[.int .i64 os, .slice (some ⟨gg, 0, none⟩) 0 0, .slice B2 m2 d2, .slice B3 m3 d3, .int .i64 st], rBook (.agg #[.int .i64 os, .slice (some ⟨gg, 0, none⟩) 0 0, .slice B2 m2 d2, .slice B3 m3 d3, .int .i64 st]) ⟨⟨os, [], b.order.deeds⟩, b.done, st⟩]) := Lib.hid (T2.perm (show List.Perm _ [rRd w g (hi + 371), X, rBlk r 28 #[.int .i64 0, .slice none 0 0, .slice none 0 0, .slice none 0 0, .int .i64 0], rBlk g5 28 #[.int .i64 os, .slice (some ⟨gg, 0, none⟩) 0 0, .slice B2 m2 d2, .slice B3 m3 d3, .int .i64 st], rBook (.agg #[.int .i64 os, .slice (some ⟨gg, 0, none⟩) 0 0, .slice B2 m2 d2, .slice B3 m3 d3, .int .i64 st]) ⟨⟨os, [], b.order.deeds⟩, b.done, st⟩] from List.perm_append_comm (l₁ := [_]) (l₂ := [_, _, _, _])))
     clear T1 T2
     clear HS7 HSU q7 f7 q8 f8 hgg
     obtain ⟨w9, hw9⟩ : ∃ x, (w7.alloc (.cells #[] 3)).setCell ⟨g5, 1, none⟩ (.slice (some ⟨gg, 0, none⟩) 0 0) = x := ⟨_, rfl⟩
     rw [hw9] at HS9 ⊢
     clear hw9
     have qa : ∀ j, w9.cell? ⟨g5, j, none⟩ = _ := HS9.out.cells 3 rfl
     have qb : ∀ j, w9.cell? ⟨r, j, none⟩ = _ := HS9.out.cells 2 rfl
     have fb := HS9.out.free 2 rfl
     go_wp2
     refine bodyPost_ret (v := .agg #[.int .i64 os, .slice (some ⟨gg, 0, none⟩) 0 0, .slice B2 m2 d2, .slice B3 m3 d3, .int .i64 st]) (by simp [results, Tryz.results42, go_sem, qb]) rfl ⟨_, ⟨⟨os, [], b.order.deeds⟩, b.done, st⟩, rfl, ?_⟩
     exact ((HS9.out.set5 2 rfl _ _ _ _ _).pick (L' := [rRd w g (hi + 371), X, rBook (.agg #[.int .i64 os, .slice (some ⟨gg, 0, none⟩) 0 0, .slice B2 m2 d2, .slice B3 m3 d3, .int .i64 st]) ⟨⟨os, [], b.order.deeds⟩, b.done, st⟩]) [0, 1, 4] (by decide) rfl rfl).more (by omega)
/-- a book is drawn, whatever else stands -/
theorem l20Book_rd {w W : World} {Rs : List HRes} {g hi : Nat} (S : St w W (rRd w g hi :: Rs)) (hh : hi ≤ 100000000000) (n : Int) :
  Calls Tryz.prog 42 #[.pointer (some ⟨g, 0, none⟩), .int .i64 n] W fun e w' => ∃ v b, e = .returned v ∧ St w w' (rRd w g (hi + 400) :: rBook v b :: Rs) := by
 refine (l20Book_rd1 (St.pack (Rs := [rRd w g hi]) (L := Rs) S) hh n).mono fun e w' ⟨v, b, h1, h2⟩ => ⟨v, b, h1, ?_⟩
 exact St.unpack (Rs := [rRd w g (hi + 400), rBook v b]) (L := Rs) (h2.pick [0, 2, 1] (by decide) rfl rfl)
end Go.Proofs.YtkmcengmglgdeaaGreatDoor
