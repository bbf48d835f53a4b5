/- Joined texts: DrawB, L20Acts. -/
import Derived.Test.YtkmcengmglgdeaaGreatDoorSL20Book
import Derived.Test.YtkmcengmglgdeaaGreatDoorSGraph
import Derived.Test.YtkmcengmglgdeaaGreatDoorSRest
import Derived.Test.YtkmcengmglgdeaaGreatDoorSRunB
/- The draws that only draw a book. Printed by gen_drawb.py. -/
namespace Go.Proofs.YtkmcengmglgdeaaGreatDoor
set_option linter.unusedVariables false
set_option linter.unusedSimpArgs false
open Go.ChangeShapes Go.WideShapes Go.ChangeAt Go.RowKit

def GivesBk (w : World) (e : Ending) (w' : World) : Prop := ∃ v b, e = .returned v ∧ St w w' [rBook v b]
end Go.Proofs.YtkmcengmglgdeaaGreatDoor

/- The draw of acts. Printed by gen_l20acts.py. -/
namespace Go.Proofs.YtkmcengmglgdeaaGreatDoor
set_option linter.unusedVariables false
set_option linter.unusedSimpArgs false
open Go.ChangeShapes Go.WideShapes Go.ChangeAt Go.RowKit

theorem St.left {w W : World} {Rs L : List HRes} (h : St w W (Rs ++ L)) : St w W Rs := by
 obtain ⟨Fs, kl, ha, hn⟩ := h.has
 have hl : Fs.length = Rs.length + L.length := by rw [kl, List.length_append]
 rw [← List.take_append_drop Rs.length Fs, List.flatten_append] at hn
 refine ⟨h.below, Fs.take Rs.length, by simp; omega, fun i R F hR hF => ?_, (List.nodup_append.1 hn).1⟩
 have hi : i < Rs.length := (List.getElem?_eq_some_iff.1 hR).1
 rw [List.getElem?_take_of_lt hi] at hF
 exact ha i R F (by rw [List.getElem?_append_left hi]; exact hR) hF
set_option maxRecDepth 100000 in
set_option maxHeartbeats 2000000 in
theorem l20Acts_rd1 {w W : World} {X : HRes} {g hi : Nat} {v : Value} {b : BookD} (S : St w W [rRd w g hi, rBook v b, X]) (hh : hi ≤ 300000000000) :
  Calls Tryz.prog 94 #[.pointer (some ⟨g, 0, none⟩), v] W fun e w' => ∃ v' aa, e = .returned v' ∧ aa.length ≤ 11 ∧ (∀ a ∈ aa, (Lit.int .i64 a.number).wf = true) ∧ St w w' [rRd w g (hi + 100), rActs v' aa, rBook v b, X] := by
 obtain ⟨A1, n1, c1, A2, n2, c2, A3, n3, c3, hv⟩ := S.formB 1 rfl
 obtain ⟨os, hos⟩ : ∃ x, b.order.start = x := ⟨_, rfl⟩
 obtain ⟨st, hst⟩ : ∃ x, b.state = x := ⟨_, rfl⟩
 have HOS := Bx.mk hos
 have HST := Bx.mk hst
 rw [hos, hst] at hv
 subst hv
 obtain ⟨r, hr⟩ : ∃ r, W.heap.size = r := ⟨_, rfl⟩
 have S1 := ((S.alloc #[.int .i64 os, .slice A1 n1 c1, .slice A2 n2 c2, .slice A3 n3 c3, .int .i64 st] 28).call (St.newA _ (r + 1) (by simp [hr]))).alloc #[.int .i64 os, .slice A1 n1 c1, .slice A2 n2 c2, .slice A3 n3 c3, .int .i64 st] 28
 rw [hr] at S1
 obtain ⟨g6, hg6⟩ : ∃ x, r + 2 = x := ⟨_, rfl⟩
 have hsz : ((W.alloc (.cells #[.int .i64 os, .slice A1 n1 c1, .slice A2 n2 c2, .slice A3 n3 c3, .int .i64 st] 28)).alloc (.cells #[] 64)).heap.size = g6 := by simp [hr, ← hg6]
 rw [hsz] at S1
 have HS1 : Hid (St w (((W.alloc (.cells #[.int .i64 os, .slice A1 n1 c1, .slice A2 n2 c2, .slice A3 n3 c3, .int .i64 st] 28)).alloc (.cells #[] 64)).alloc (.cells #[.int .i64 os, .slice A1 n1 c1, .slice A2 n2 c2, .slice A3 n3 c3, .int .i64 st] 28)) (rRd w g hi :: rBlk r 28 #[.int .i64 os, .slice A1 n1 c1, .slice A2 n2 c2, .slice A3 n3 c3, .int .i64 st] :: rBlk g6 28 #[.int .i64 os, .slice A1 n1 c1, .slice A2 n2 c2, .slice A3 n3 c3, .int .i64 st] :: rActs (.slice (some ⟨r + 1, 0, none⟩) 0 0) [] :: rBook (.agg #[.int .i64 os, .slice A1 n1 c1, .slice A2 n2 c2, .slice A3 n3 c3, .int .i64 st]) b :: X :: [])) := Lib.hid (S1.pick [0, 3, 5, 4, 1, 2] (by decide) rfl rfl)
 clear S S1 hos hst
 go_enter Tryz.func94, Tryz.ntmps94
 go_wp2_with fail
 refine (pick_rd HS1.out (by omega) 12).mono ?_
 rintro e w2 ⟨x2, rfl, ⟨a1, a2, -⟩, s2⟩
 have a3 := a2 (by omega)
 obtain ⟨k2, rfl⟩ := Int.eq_ofNat_of_zero_le a1
 have hk2 : k2 ≤ 11 := by omega
 have HS2 := Lib.hid (s2.more (hi' := hi + 1 + 8 * (11 - k2)) (by omega))
 clear s2 a1 a2 a3 HS1
 try rw [hr]
 have hg6' : r + 1 + 1 = g6 := by omega
 try rw [hg6']
 try rw [hg6]
 clear hsz
 go_wp2
 go_loopw [7, 5] (fun kv x5 wr => ∃ (k : Nat) (y5 : Value) (aa : List ActD) (cur : BookD) (cs ct : Int) (B1 : Option Addr) (m1 d1 : Nat) (B2 : Option Addr) (m2 d2 : Nat) (B3 : Option Addr) (m3 d3 : Nat) (Ts : List HRes) (i : Nat), y5 = x5 ∧ k ≤ 11 ∧ kv = .int .i64 k ∧ aa.length + k ≤ 11 ∧ Bx (∀ a ∈ aa, (Lit.int .i64 a.number).wf = true) ∧ Bx (cur.order.start = cs) ∧ Bx (cur.state = ct) ∧
  Bx ((rBook (.agg #[.int .i64 os, .slice A1 n1 c1, .slice A2 n2 c2, .slice A3 n3 c3, .int .i64 st]) b :: X :: Ts)[i]? = some (rBook (.agg #[.int .i64 cs, .slice B1 m1 d1, .slice B2 m2 d2, .slice B3 m3 d3, .int .i64 ct]) cur)) ∧ St w wr (rRd w g (hi + 1 + 8 * (11 - k)) :: rBlk r 28 #[.int .i64 os, .slice A1 n1 c1, .slice A2 n2 c2, .slice A3 n3 c3, .int .i64 st] :: rBlk g6 28 #[.int .i64 cs, .slice B1 m1 d1, .slice B2 m2 d2, .slice B3 m3 d3, .int .i64 ct] :: rActs y5 aa :: rBook (.agg #[.int .i64 os, .slice A1 n1 c1, .slice A2 n2 c2, .slice A3 n3 c3, .int .i64 st]) b :: X :: Ts)) (fun kv _ _ => (intOf kv).toNat)
 case atStart => exact ⟨k2, _, [], b, os, st, _, _, _, _, _, _, _, _, _, [], 0, rfl, hk2, rfl, by simpa using hk2, Bx.mk (by simp), HOS, HST, Bx.mk rfl, by have h := HS2.out; first | exact h | (rw [hg6] at h; exact h) | (rw [← hg6] at h ⊢; exact h)⟩
 case round =>
  clear HS2
  obtain ⟨k, y5, aa, cur, cs, ct, B1, m1, d1, B2, m2, d2, B3, m3, d3, Ts, i, rfl, hk, rfl, hal, HWF, HCS, HCT, HI, S⟩ := hrel
  have HS := Lib.hid S
  have q6 : ∀ j, wr.cell? ⟨g6, j, none⟩ = _ := S.cells 2 rfl
  clear S
  by_cases hk0 : 0 < k
  ·have hk0i : (0 : Int) < (k : Int) := by omega
   have HI3 : Bx ((rBlk r 28 #[.int .i64 os, .slice A1 n1 c1, .slice A2 n2 c2, .slice A3 n3 c3, .int .i64 st] :: rBlk g6 28 #[.int .i64 cs, .slice B1 m1 d1, .slice B2 m2 d2, .slice B3 m3 d3, .int .i64 ct] :: rActs y5 aa :: rBook (.agg #[.int .i64 os, .slice A1 n1 c1, .slice A2 n2 c2, .slice A3 n3 c3, .int .i64 st]) b :: X :: Ts)[i + 3]? = some (rBook (.agg #[.int .i64 cs, .slice B1 m1 d1, .slice B2 m2 d2, .slice B3 m3 d3, .int .i64 ct]) cur)) := Bx.mk (by simpa using HI.out)
   go_wp2_with fail
   refine (l20Act_rd HS.out (by omega) (i + 3) HI3.out).mono ?_
   rintro e w3 ⟨ak, am, rfl, -, ham, s3⟩
   have haw : (Lit.int .i64 am).wf = true := wf_i64_mk (by omega)
   have HAW := Lib.hid haw
   obtain ⟨g8, hg8⟩ : ∃ x, w3.heap.size = x := ⟨_, rfl⟩
   have HS3 : Hid (St w (w3.alloc (.cells #[.int .i64 ak, .int .i64 am] 64)) (rRd w g (hi + 1 + 8 * (11 - k) + 8) :: rBlk g8 64 #[.int .i64 ak, .int .i64 am] :: rBlk r 28 #[.int .i64 os, .slice A1 n1 c1, .slice A2 n2 c2, .slice A3 n3 c3, .int .i64 st] :: rBlk g6 28 #[.int .i64 cs, .slice B1 m1 d1, .slice B2 m2 d2, .slice B3 m3 d3, .int .i64 ct] :: rActs y5 aa :: rBook (.agg #[.int .i64 os, .slice A1 n1 c1, .slice A2 n2 c2, .slice A3 n3 c3, .int .i64 st]) b :: X :: Ts)) := Lib.hid (by rw [← hg8]; exact s3.alloc1 _ _)
   clear s3 haw HS q6 HI3
   have HI5 : Bx ((rRd w g (hi + 1 + 8 * (11 - k) + 8) :: rBlk g8 64 #[.int .i64 ak, .int .i64 am] :: rBlk r 28 #[.int .i64 os, .slice A1 n1 c1, .slice A2 n2 c2, .slice A3 n3 c3, .int .i64 st] :: rBlk g6 28 #[.int .i64 cs, .slice B1 m1 d1, .slice B2 m2 d2, .slice B3 m3 d3, .int .i64 ct] :: rActs y5 aa :: rBook (.agg #[.int .i64 os, .slice A1 n1 c1, .slice A2 n2 c2, .slice A3 n3 c3, .int .i64 st]) b :: X :: Ts)[i + 5]? = some (rBook (.agg #[.int .i64 cs, .slice B1 m1 d1, .slice B2 m2 d2, .slice B3 m3 d3, .int .i64 ct]) cur)) := Bx.mk (by simpa using HI.out)
   obtain ⟨nb, hnb⟩ : ∃ x, bookDo cur ⟨ak, am⟩ = x := ⟨_, rfl⟩
   obtain ⟨did, hdid⟩ : ∃ x, bookDid cur ⟨ak, am⟩ = x := ⟨_, rfl⟩
   obtain ⟨ns, hns⟩ : ∃ x, nb.order.start = x := ⟨_, rfl⟩
   obtain ⟨nt, hnt⟩ : ∃ x, nb.state = x := ⟨_, rfl⟩
   have HNB := Bx.mk hnb
   have HDID := Bx.mk hdid
   have HNS := Bx.mk hns
   have HNT := Bx.mk hnt
   clear hnb hdid hns hnt
   try rw [hg8]
   have q6 : ∀ j, (w3.alloc (.cells #[.int .i64 ak, .int .i64 am] 64)).cell? ⟨g6, j, none⟩ = _ := HS3.out.cells 3 rfl
   have q8 : ∀ j, (w3.alloc (.cells #[.int .i64 ak, .int .i64 am] 64)).cell? ⟨g8, j, none⟩ = _ := HS3.out.cells 1 rfl
   go_wp2_with fail
   refine (bookDo_spec _ cur ak am _ (HS3.out.rdB (i + 5) HI5.out) HAW.out).mono ?_
   rw [HNB.out, HDID.out]
   rintro e w4 ⟨v4, rfl, s4⟩
   obtain ⟨N1, e1, u1, N2, e2, u2, N3, e3, u3, hv⟩ := s4.formB 0 rfl
   rw [HNS.out, HNT.out] at hv
   subst hv
   obtain ⟨g9, hg9⟩ : ∃ x, w4.heap.size = x := ⟨_, rfl⟩
   obtain ⟨w5, hw5⟩ : ∃ x, w4.alloc (.cells #[.int .i64 ns, .slice N1 e1 u1, .slice N2 e2 u2, .slice N3 e3 u3, .int .i64 nt] 28) = x := ⟨_, rfl⟩
   have HS5 : Hid (St w w5 (rRd w g (hi + 1 + 8 * (11 - k) + 8) :: rBlk g9 28 #[.int .i64 ns, .slice N1 e1 u1, .slice N2 e2 u2, .slice N3 e3 u3, .int .i64 nt] :: rBook (.agg #[.int .i64 ns, .slice N1 e1 u1, .slice N2 e2 u2, .slice N3 e3 u3, .int .i64 nt]) nb :: rBlk g8 64 #[.int .i64 ak, .int .i64 am] :: rBlk r 28 #[.int .i64 os, .slice A1 n1 c1, .slice A2 n2 c2, .slice A3 n3 c3, .int .i64 st] :: rBlk g6 28 #[.int .i64 cs, .slice B1 m1 d1, .slice B2 m2 d2, .slice B3 m3 d3, .int .i64 ct] :: rActs y5 aa :: rBook (.agg #[.int .i64 os, .slice A1 n1 c1, .slice A2 n2 c2, .slice A3 n3 c3, .int .i64 st]) b :: X :: Ts)) := Lib.hid (by rw [← hg9, ← hw5]; exact (HS3.out.call1 s4).alloc1 _ _)
   clear s4 HS3 q6 q8 HI5
   go_upto_region 8 with (fail)
   try rw [hg9]
   try rw [hw5]
   clear hw5 hg9 hg8
   have q6 : ∀ j, w5.cell? ⟨g6, j, none⟩ = _ := HS5.out.cells 5 rfl
   have q8 : ∀ j, w5.cell? ⟨g8, j, none⟩ = _ := HS5.out.cells 3 rfl
   have q9 : ∀ j, w5.cell? ⟨g9, j, none⟩ = _ := HS5.out.cells 1 rfl
   have f6 := HS5.out.free 5 rfl
   have hint : ints (flatA [(⟨ak, am⟩ : ActD)]) = [Value.int .i64 ak, Value.int .i64 am] := rfl
   have HWF2 : Bx (∀ a ∈ aa ++ [⟨ak, am⟩], (Lit.int .i64 a.number).wf = true) := Bx.mk fun a ha => (List.mem_append.1 ha).elim (HWF.out a) fun h => by rw [List.mem_singleton.1 h]; exact HAW.out
   have HINT := Bx.mk hint
   clear hint
   cases did with
   | false =>
    have HS6 : Hid (St w w5 (rRd w g (hi + 1 + 8 * (11 - k) + 8) :: rBlk r 28 #[.int .i64 os, .slice A1 n1 c1, .slice A2 n2 c2, .slice A3 n3 c3, .int .i64 st] :: rBlk g6 28 #[.int .i64 cs, .slice B1 m1 d1, .slice B2 m2 d2, .slice B3 m3 d3, .int .i64 ct] :: rActs y5 aa :: rBook (.agg #[.int .i64 os, .slice A1 n1 c1, .slice A2 n2 c2, .slice A3 n3 c3, .int .i64 st]) b :: X :: Ts)) := Lib.hid (((HS5.out.rid 1 rfl).rid 1 rfl).rid 1 rfl)
    clear HS5
    have HO := Lib.hid (HS6.out.ownA 3 rfl)
    have HAP : Hid (∀ v3 w3', w3'.ownsRow 0 64 2 v3 (aa.length + 1) (ints (flatA aa) ++ [Value.int .i64 ak, Value.int .i64 am]) → (w5.alloc (.cells #[.int .i64 ak, .int .i64 am] 64)).grownBy w3' y5.ownBlock → (v3.ownBlock = y5.ownBlock ∨ v3.ownBlock = some (w5.alloc (.cells #[.int .i64 ak, .int .i64 am] 64)).heap.size) → St w w3' (rRd w g (hi + 1 + 8 * (11 - k) + 8) :: rBlk r 28 #[.int .i64 os, .slice A1 n1 c1, .slice A2 n2 c2, .slice A3 n3 c3, .int .i64 st] :: rBlk g6 28 #[.int .i64 cs, .slice B1 m1 d1, .slice B2 m2 d2, .slice B3 m3 d3, .int .i64 ct] :: rActs v3 (aa ++ [⟨ak, am⟩]) :: rBook (.agg #[.int .i64 os, .slice A1 n1 c1, .slice A2 n2 c2, .slice A3 n3 c3, .int .i64 st]) b :: X :: Ts)) :=
     Lib.hid fun v3 w3' h1 h2 h3 => (((HS6.out.callF (St.new1 _ #[.int .i64 ak, .int .i64 am] 64)).tl).appA 3 rfl rfl (by rw [HINT.out]; exact h1) h2 h3)
    clear HS6
    go_wp2_with (at_builtin; refine wp_app elAct rfl _ _ rfl 0 y5 aa.length (ints (flatA aa)) rfl (HO.out.alloc _) _ _ 1 1 [.int .i64 ak, .int .i64 am] rfl (RdRow.new w5 [.int .i64 ak, .int .i64 am] 64 2 1 rfl (by unfold maxLen; omega)) (by simp [Value.oneCell']) (by omega) (by omega) (Nat.zero_le _) ?_; intro v7 w7 hown7 hg7 hat7; have HS7 := Lib.hid (HAP.out v7 w7 hown7 hg7 hat7))
    go_wp2
    go_roundw
    case rel => exact ⟨k - 1, _, aa ++ [⟨ak, am⟩], cur, cs, ct, B1, m1, d1, B2, m2, d2, B3, m3, d3, Ts, i, rfl, by omega, by go_num, by rw [List.length_append]; simp; omega, HWF2, HCS, HCT, HI, HS7.out.more (by omega)⟩
    case measure => simp [intOf]; omega
   | true =>
    have HS6 : Hid (St w (((((w5.setCell ⟨g6, 0, none⟩ (.int .i64 ns)).setCell ⟨g6, 1, none⟩ (.slice N1 e1 u1)).setCell ⟨g6, 2, none⟩ (.slice N2 e2 u2)).setCell ⟨g6, 3, none⟩ (.slice N3 e3 u3)).setCell ⟨g6, 4, none⟩ (.int .i64 nt)) (rRd w g (hi + 1 + 8 * (11 - k) + 8) :: rBook (.agg #[.int .i64 ns, .slice N1 e1 u1, .slice N2 e2 u2, .slice N3 e3 u3, .int .i64 nt]) nb :: rBlk g8 64 #[.int .i64 ak, .int .i64 am] :: rBlk r 28 #[.int .i64 os, .slice A1 n1 c1, .slice A2 n2 c2, .slice A3 n3 c3, .int .i64 st] :: rBlk g6 28 #[.int .i64 ns, .slice N1 e1 u1, .slice N2 e2 u2, .slice N3 e3 u3, .int .i64 nt] :: rActs y5 aa :: rBook (.agg #[.int .i64 os, .slice A1 n1 c1, .slice A2 n2 c2, .slice A3 n3 c3, .int .i64 st]) b :: X :: Ts)) := Lib.hid (by
     have := ((HS5.out.set5 5 rfl (.int .i64 ns) (.slice N1 e1 u1) (.slice N2 e2 u2) (.slice N3 e3 u3) (.int .i64 nt)).rid 1 rfl)
     exact this)
    clear HS5
    go_upto_region 10 with (fail)
    obtain ⟨w6, hw6⟩ : ∃ x, ((((w5.setCell ⟨g6, 0, none⟩ (.int .i64 ns)).setCell ⟨g6, 1, none⟩ (.slice N1 e1 u1)).setCell ⟨g6, 2, none⟩ (.slice N2 e2 u2)).setCell ⟨g6, 3, none⟩ (.slice N3 e3 u3)).setCell ⟨g6, 4, none⟩ (.int .i64 nt) = x := ⟨_, rfl⟩
    rw [hw6] at HS6 ⊢
    clear hw6 q6 q8 q9 f6
    have q8 : ∀ j, w6.cell? ⟨g8, j, none⟩ = _ := HS6.out.cells 2 rfl
    have HO := Lib.hid (HS6.out.ownA 5 rfl)
    have HAP : Hid (∀ v3 w3', w3'.ownsRow 0 64 2 v3 (aa.length + 1) (ints (flatA aa) ++ [Value.int .i64 ak, Value.int .i64 am]) → (w6.alloc (.cells #[.int .i64 ak, .int .i64 am] 64)).grownBy w3' y5.ownBlock → (v3.ownBlock = y5.ownBlock ∨ v3.ownBlock = some (w6.alloc (.cells #[.int .i64 ak, .int .i64 am] 64)).heap.size) → St w w3' (rRd w g (hi + 1 + 8 * (11 - k) + 8) :: rBlk r 28 #[.int .i64 os, .slice A1 n1 c1, .slice A2 n2 c2, .slice A3 n3 c3, .int .i64 st] :: rBlk g6 28 #[.int .i64 ns, .slice N1 e1 u1, .slice N2 e2 u2, .slice N3 e3 u3, .int .i64 nt] :: rActs v3 (aa ++ [⟨ak, am⟩]) :: rBook (.agg #[.int .i64 os, .slice A1 n1 c1, .slice A2 n2 c2, .slice A3 n3 c3, .int .i64 st]) b :: X :: rBook (.agg #[.int .i64 ns, .slice N1 e1 u1, .slice N2 e2 u2, .slice N3 e3 u3, .int .i64 nt]) nb :: Ts)) :=
     Lib.hid fun v3 w3' h1 h2 h3 => (((((HS6.out.rid 2 rfl).callF (St.new1 _ #[.int .i64 ak, .int .i64 am] 64)).tl).appA 4 rfl rfl (by rw [HINT.out]; exact h1) h2 h3).perm (List.Perm.cons _ (List.perm_middle (l₁ := [_, _, _, _, _]) (l₂ := Ts)).symm))
    clear HS6
    go_wp2_with (at_builtin; refine wp_app elAct rfl _ _ rfl 0 y5 aa.length (ints (flatA aa)) rfl (HO.out.alloc _) _ _ 1 1 [.int .i64 ak, .int .i64 am] rfl (RdRow.new w6 [.int .i64 ak, .int .i64 am] 64 2 1 rfl (by unfold maxLen; omega)) (by simp [Value.oneCell']) (by omega) (by omega) (Nat.zero_le _) ?_; intro v7 w7 hown7 hg7 hat7; have HS7 := Lib.hid (HAP.out v7 w7 hown7 hg7 hat7))
    go_wp2
    go_roundw
    case rel => exact ⟨k - 1, _, aa ++ [⟨ak, am⟩], nb, ns, nt, N1, e1, u1, N2, e2, u2, N3, e3, u3, rBook (.agg #[.int .i64 ns, .slice N1 e1 u1, .slice N2 e2 u2, .slice N3 e3 u3, .int .i64 nt]) nb :: Ts, 2, rfl, by omega, by go_num, by rw [List.length_append]; simp; omega, HWF2, HNS, HNT, Bx.mk rfl, HS7.out.more (by omega)⟩
    case measure => simp [intOf]; omega
  ·obtain rfl : k = 0 := by omega
   go_wp2
   go_ret
   refine ⟨_, aa, rfl, by omega, HWF.out, ?_⟩
   have := (St.left (Rs := [rRd w g (hi + 1 + 8 * (11 - 0)), rBlk r 28 #[.int .i64 os, .slice A1 n1 c1, .slice A2 n2 c2, .slice A3 n3 c3, .int .i64 st], rBlk g6 28 #[.int .i64 cs, .slice B1 m1 d1, .slice B2 m2 d2, .slice B3 m3 d3, .int .i64 ct], rActs y5 aa, rBook (.agg #[.int .i64 os, .slice A1 n1 c1, .slice A2 n2 c2, .slice A3 n3 c3, .int .i64 st]) b, X]) (L := Ts) HS.out).pick [0, 3, 4, 5] (by decide) rfl rfl
   exact this.more (by omega)
theorem l20Acts_rd {w W : World} {Rs : List HRes} {g hi : Nat} {v : Value} {b : BookD} (S : St w W (rRd w g hi :: rBook v b :: Rs)) (hh : hi ≤ 300000000000) :
  Calls Tryz.prog 94 #[.pointer (some ⟨g, 0, none⟩), v] W fun e w' => ∃ v' aa, e = .returned v' ∧ aa.length ≤ 11 ∧ (∀ a ∈ aa, (Lit.int .i64 a.number).wf = true) ∧ St w w' (rRd w g (hi + 100) :: rActs v' aa :: rBook v b :: Rs) :=
 (l20Acts_rd1 (St.pack (Rs := [rRd w g hi, rBook v b]) (L := Rs) S) hh).mono fun e w' ⟨v', aa, h1, h2, h3, h4⟩ => ⟨v', aa, h1, h2, h3, St.unpack (Rs := [rRd w g (hi + 100), rActs v' aa, rBook v b]) (L := Rs) h4⟩
end Go.Proofs.YtkmcengmglgdeaaGreatDoor
