/- Joined texts: CondS, ProofT. -/
import Derived.Test.YtkmcengmglgdeaaGreatDoorSLaid
import Derived.Test.YtkmcengmglgdeaaGreatDoorSEndP
import Derived.Test.YtkmcengmglgdeaaGreatDoorSNum
import Derived.Test.YtkmcengmglgdeaaGreatDoorSSumW
import Derived.Test.YtkmcengmglgdeaaGreatDoorSLet
import Derived.Test.YtkmcengmglgdeaaGreatDoorSSplitW
import Derived.Test.YtkmcengmglgdeaaGreatDoorSActsH
import Derived.Test.YtkmcengmglgdeaaGreatDoorSCondW
import Derived.Test.YtkmcengmglgdeaaGreatDoorSPlanForW
import Derived.Test.YtkmcengmglgdeaaGreatDoorSPlanForS

namespace Go.Proofs.YtkmcengmglgdeaaGreatDoor
set_option linter.unusedVariables false
set_option linter.unusedSimpArgs false
open Go.ChangeShapes Go.WideShapes Go.ChangeAt Go.RowKit

theorem needs_bd (l : List Int) : -(l.length : Int) ≤ needs l ∧ needs l ≤ l.length := by
 induction l with
 | nil => simp [needs]
 | cons x l ih =>
  simp only [needs, List.length_cons]; have : 0 ≤ takesN x ∧ takesN x ≤ 2 := by unfold takesN; split <;> (try split) <;> omega
  omega
theorem mid_at {xs pre s post : List Int} (hx : xs = pre ++ s ++ post) {m : Nat} (hm : m < s.length) : xs[pre.length + m]? = s[m]? := by
 subst hx; rw [List.append_assoc, List.getElem?_append_right (by omega), Nat.add_sub_cancel_left, List.getElem?_append_left hm]
theorem needs_at {s : List Int} {m : Nat} {x : Int} (h : s[m]? = some x) : needs (s.drop m) = takesN x - 1 + needs (s.drop (m + 1)) := by
 obtain ⟨h1, h2⟩ := List.getElem?_eq_some_iff.1 h; rw [List.drop_eq_getElem_cons h1, h2]; rfl
set_option maxRecDepth 100000 in
theorem l5Span_any (A : Option Addr) (n c : Nat) (xs : List Int) (last : Int) (pre post : List Int) (cd : Cond) (w : World) (h : RdI .i64 w w.heap.size A n c xs) (hx : xs = pre ++ cd.steps ++ post) (hok : cd.Ok) (hl : last = (pre.length + cd.steps.length : Nat) - 1) (hn : n ≤ 1000) :
  Calls Tryz.prog 199 #[.slice A n c, .int .i64 last] w fun e w' => e = .returned (.int .i64 (pre.length : Nat)) ∧ w = w' := by
 have hlen := h.len; have hxl : xs.length = pre.length + cd.steps.length + post.length := by rw [hx]; simp; omega
 have H1 := Lib.hid (cd.needs_steps hok); have H2 := Lib.hid (cd.needs_tail hok); have HX := Lib.hid hx; obtain ⟨p, hp⟩ : ∃ p, pre.length = p := ⟨_, rfl⟩; obtain ⟨q, hq⟩ : ∃ q, cd.steps.length = q := ⟨_, rfl⟩; have HP := Lib.hid hp; have HQ := Lib.hid hq; have hpq : p + q ≤ n := by omega
 have hl' : last + 1 = ((p + q : Nat) : Int) := by omega
 have hl2 : -1 ≤ last := by omega
 have hl3 : last ≤ 2000 := by omega
 rw [hp]; have HS0 : Hid (1 + needs (cd.steps.drop q) = 1) := Lib.hid (by rw [List.drop_eq_nil_of_le (by omega)]; rfl); clear hx hok hl hxl hlen hp hq; go_enter Tryz.func199, Tryz.ntmps199; go_wp2
 go_loop [5, 6] (fun z a => ∃ (m : Nat) (k : Int), m ≤ q ∧ z = .int .i64 k ∧ a = .int .i64 ((p + m : Nat) : Int) ∧ (0 ≤ k ∧ k ≤ 2000) ∧ Hid (k = 1 + needs (cd.steps.drop m))) (fun _ a => (intOf a).toNat)
 case atStart => exact ⟨q, 1, Nat.le_refl _, rfl, by rw [← hl']; go_num, by omega, Lib.hid HS0.out.symm⟩
 case round =>
  clear HS0; obtain ⟨m, k, hm, rfl, rfl, hk, HK⟩ := hrel
  by_cases h0 : m = 0
  ·have hk0 : k = 0 := by rw [HK.out, h0, List.drop_zero, H1.out]; rfl
   subst h0 hk0; go_wp2; go_ret; exact ⟨rfl, rfl⟩
  ·obtain ⟨j, rfl⟩ : ∃ j, m = j + 1 := ⟨m - 1, by omega⟩
   have hk1 : 0 < k := by
    have := H2.out (j + 1) (by omega)
    rw [HK.out]; omega
   obtain ⟨b, off, x, rfl, hb, hxx, hw, hc⟩ := h.get (i := p + j) (by omega)
   have hsx : cd.steps[j]? = some x := by
    have := mid_at HX.out (m := j) (by rw [HQ.out]; omega)
    rw [HP.out, hxx] at this; exact this.symm
   have HNA := Lib.hid (needs_at hsx); have htb : 0 ≤ takesN x ∧ takesN x ≤ 2 := by unfold takesN; split <;> (try split) <;> omega
   have HBD := Lib.hid (needs_bd (cd.steps.drop j)); have hdl : (cd.steps.drop j).length ≤ 1000 := by rw [List.length_drop, HQ.out]; omega
   have hpj : ((p + (j + 1) : Nat) : Int) - 1 = ((p + j : Nat) : Int) := by omega
   have hK2 : k - 1 + takesN x = 1 + needs (cd.steps.drop j) := by rw [HNA.out, HK.out]; omega
   have hnn : 0 ≤ 1 + needs (cd.steps.drop j) := by
    rcases Nat.eq_zero_or_pos j with rfl | hj
    ·rw [List.drop_zero, H1.out]; decide
    ·have := H2.out j hj; omega
   have hK3 : 0 ≤ k - 1 + takesN x ∧ k - 1 + takesN x ≤ 2000 := by
    have := HBD.out
    omega
   have HK2 := Lib.hid hK2; obtain ⟨t, ht⟩ : ∃ t, takesN x = t := ⟨_, rfl⟩; have HT : Hid ((if x = 7 then (1 : Int) else if x = 8 ∨ x = 9 then 2 else 0) = t) := Lib.hid ht; rw [ht] at hK3 htb HK2; clear hK2 hnn hsx hxx hdl ht h0 hw
   go_wp2_with fail
   refine (l5Takes_any x _).mono ?_; rw [HT.out]; rintro e w1 ⟨rfl, rfl⟩; go_wp2
   go_round
   case rel => exact ⟨j, _, by omega, rfl, by go_num, hK3, HK2⟩
   case measure => simp [intOf]; omega
theorem ba3S (a b : List UInt8) (x : UInt8) : (⟨a.toArray⟩ ++ ⟨#[x]⟩ ++ ⟨b.toArray⟩ : ByteArray) = ⟨(a ++ x :: b).toArray⟩ := by
 rw [show (⟨#[x]⟩ : ByteArray) = ⟨[x].toArray⟩ from rfl, ba_app, ba_app]; simp
theorem baB (t : List UInt8) : (⟨#[40]⟩ ++ ⟨t.toArray⟩ ++ ⟨#[41]⟩ : ByteArray) = ⟨(40 :: (t ++ [41])).toArray⟩ := by
 rw [show (⟨#[40]⟩ : ByteArray) = ⟨[40].toArray⟩ from rfl, show (⟨#[41]⟩ : ByteArray) = ⟨[41].toArray⟩ from rfl, ba_app, ba_app]; simp
theorem sz_list (l : List UInt8) : (⟨l.toArray⟩ : ByteArray).size = l.length := by rw [Lib.size_eq]
set_option maxRecDepth 100000 in
set_option maxHeartbeats 1000000 in
theorem l5Text_any (cd : Cond) : cd.Ok → cd.steps.length ≤ 100 → ∀ (A : Option Addr) (n c : Nat) (xs : List Int) (last : Int) (pre post : List Int) (k : Nat) (w : World) (h : RdI .i64 w w.heap.size A n c xs) (hx : xs = pre ++ cd.steps ++ post) (hl : last = (pre.length + cd.steps.length : Nat) - 1) (hk : k ≤ 3) (hn : n ≤ 1000),
  Calls Tryz.prog 173 #[.slice A n c, .int .i64 last, .int .i64 (k : Nat)] w fun e w' => e = .returned (.string ⟨(cd.text k).toArray⟩) ∧ Below w.heap.size w w' := by
 induction cd with
 | one s =>
  intro hok hsl A n c xs last pre post k w h hx hl hk hn; obtain ⟨hs0, hs6⟩ : 0 ≤ s ∧ s ≤ 6 := hok; have hxl : xs.length = pre.length + 1 + post.length := by rw [hx]; simp [Cond.steps]; omega
  have hat := mid_at hx (m := 0) (by simp [Cond.steps]); have hlen := h.len; obtain ⟨b, off, x, rfl, hb, hxx, hw, hc⟩ := h.get (i := pre.length) (by omega)
  obtain rfl : x = s := by
   rw [Nat.add_zero, hxx] at hat
   simpa [Cond.steps] using hat
  obtain ⟨p, hp⟩ : ∃ p, pre.length = p := ⟨_, rfl⟩; rw [hp] at hc; have hl' : last = ((p : Nat) : Int) := by simp only [Cond.steps, List.length_cons, List.length_nil] at hl; omega
  have hpn : p < n := by omega
  subst hl'; clear hat hxx hxl hl hp hx hlen hw
  by_cases h5 : x = 5
  ·subst h5; go_enter Tryz.func173, Tryz.ntmps173; go_wp2; go_ret; exact ⟨rfl, Below.refl _ _⟩
  by_cases h6 : x = 6
  ·subst h6; go_enter Tryz.func173, Tryz.ntmps173; go_wp2; go_ret; exact ⟨rfl, Below.refl _ _⟩
  have hd := sgn_toNat hs0 (by omega)
  have hcv : (convert 22 9 (.slice (some ⟨w.heap.size, 0, none⟩) 1 1)).run Tryz.prog (w.alloc (.cells #[.int .u8 (97 + x)] 5)) = .ok (.string ⟨[sgn x].toArray⟩) (w.alloc (.cells #[.int .u8 (97 + x)] 5)) :=
   conv_one _ _ _ (by rw [hd]; exact (Blk.new w 5 #[.int .u8 (97 + x)]).cell 0)
  have hlt : x < 5 := by omega
  clear hd h5 h6; go_enter Tryz.func173, Tryz.ntmps173; go_wp2; go_ret; exact ⟨rfl, (Below.refl _ _).alloc (Nat.le_refl _) _⟩
 | turn p ih =>
  intro hok hsl A n c xs last pre post k w h hx hl hk hn; have hsl' : p.steps.length ≤ 100 := by simp only [Cond.steps, List.length_append, List.length_cons, List.length_nil] at hsl; omega
  have hx2 : xs = pre ++ p.steps ++ (7 :: post) := by rw [hx]; simp [Cond.steps]
  have hxl : xs.length = pre.length + p.steps.length + 1 + post.length := by rw [hx2]; simp; omega
  have hat : xs[pre.length + p.steps.length]? = some 7 := by
   rw [hx2, List.append_assoc, ← List.append_assoc, List.getElem?_append_right (by simp)]; simp
  have hlen := h.len; obtain ⟨b, off, x, rfl, hb, hxx, hw, hc⟩ := h.get (i := pre.length + p.steps.length) (by omega)
  obtain rfl : x = 7 := by rw [hat] at hxx; injection hxx with hxx; exact hxx.symm
  have hl2 : last = ((pre.length + p.steps.length : Nat) : Int) := by rw [hl]; simp only [Cond.steps, List.length_append, List.length_cons, List.length_nil]; omega
  have HIH := Lib.hid (ih hok hsl' (some ⟨b, off, none⟩) n c xs (last - 1) pre (7 :: post) 3 w h hx2 (by omega) (by omega) hn); have hT : ((p.text 3).length : Int) ≤ 600 := by have := p.text_len 3; omega
  obtain ⟨T, hT'⟩ : ∃ x : ByteArray, (⟨(p.text 3).toArray⟩ : ByteArray) = x := ⟨_, rfl⟩; have h1 : ¬ 9223372036854775807 < 1 + T.size := by rw [← hT', sz_list]; omega
  have HT := Bx.mk hT'; have hs1 := p.steps_pos; obtain ⟨q, hq⟩ : ∃ q, pre.length + p.steps.length = q := ⟨_, rfl⟩; rw [hq] at hc hl2; have hqn : q < n := by omega
  have hq1 : 1 ≤ q := by omega
  subst hl2; clear hat hxx hxl hl hx hx2 hlen hw hT hT' ih hsl hsl' hq hs1; go_enter Tryz.func173, Tryz.ntmps173
  go_wp2_with fail
  refine HIH.out.mono ?_; rw [HT.out]; rintro e w1 ⟨rfl, hb1⟩; have HB1 := Lib.hid hb1; clear hb1; go_wp2; go_ret; exact ⟨ret_ba (by rw [← HT.out, show (⟨#[33]⟩ : ByteArray) = ⟨[33].toArray⟩ from rfl, ba_app]; rfl), HB1.out⟩
 | join s l r ihl ihr =>
  intro hok hsl A n c xs last pre post k w h hx hl hk hn; obtain ⟨hs, hokl, hokr⟩ := hok; simp only [Cond.steps, List.length_append, List.length_cons, List.length_nil] at hsl; have hxl' : xs = pre ++ l.steps ++ (r.steps ++ s :: post) := by rw [hx]; simp [Cond.steps]
  have hxr' : xs = (pre ++ l.steps) ++ r.steps ++ (s :: post) := by rw [hx]; simp [Cond.steps]
  have hxl : xs.length = pre.length + l.steps.length + r.steps.length + 1 + post.length := by rw [hxr']; simp; omega
  have hat : xs[pre.length + l.steps.length + r.steps.length]? = some s := by
   rw [hxr', List.getElem?_append_right (by simp; omega)]; simp only [List.length_append, Nat.sub_self, List.getElem?_cons_zero]
  have hlen := h.len; obtain ⟨b, off, x, rfl, hb, hxx, hw, hc⟩ := h.get (i := pre.length + l.steps.length + r.steps.length) (by omega)
  obtain rfl : x = s := by rw [hat] at hxx; injection hxx with hxx; exact hxx.symm
  have hl2 : last = ((pre.length + l.steps.length + r.steps.length : Nat) : Int) := by rw [hl]; simp only [Cond.steps, List.length_append, List.length_cons, List.length_nil]; omega
  obtain ⟨q, hq⟩ : ∃ q, pre.length + l.steps.length + r.steps.length = q := ⟨_, rfl⟩; obtain ⟨q1, hq1⟩ : ∃ q, pre.length + l.steps.length = q := ⟨_, rfl⟩; have p1 := l.steps_pos; have p2 := r.steps_pos; rw [hq] at hc hl2; have hqn : q < n := by omega
  have hq2 : 1 ≤ q1 := by omega
  have hq3 : q1 + 1 ≤ q := by omega
  have HSP : Hid (∀ w' : World, Below w.heap.size w w' → Calls Tryz.prog 199 #[.slice (some ⟨b, off, none⟩) n c, .int .i64 ((q : Int) - 1)] w' fun e w2 => e = .returned (.int .i64 (q1 : Nat)) ∧ w' = w2) := Lib.hid fun w' hw' => by
   have := l5Span_any (some ⟨b, off, none⟩) n c xs ((q : Int) - 1) (pre ++ l.steps) (x :: post) r w' (h.up hw') hxr' hokr (by rw [List.length_append, hq1, ← hq]; omega) hn
   rwa [List.length_append, hq1] at this
  have HLT : Hid (∀ (m : Nat) (w' : World), m ≤ 3 → Below w.heap.size w w' → Calls Tryz.prog 173 #[.slice (some ⟨b, off, none⟩) n c, .int .i64 ((q1 : Int) - 1), .int .i64 (m : Nat)] w' fun e w2 => e = .returned (.string ⟨(l.text m).toArray⟩) ∧ Below w'.heap.size w' w2) := Lib.hid fun m w' hm hw' =>
   ihl hokl (by omega) (some ⟨b, off, none⟩) n c xs ((q1 : Int) - 1) pre (r.steps ++ x :: post) m w' (h.up hw') hxl' (by rw [hq1]) hm hn
  have HRT : Hid (∀ (m : Nat) (w' : World), m ≤ 3 → Below w.heap.size w w' → Calls Tryz.prog 173 #[.slice (some ⟨b, off, none⟩) n c, .int .i64 ((q : Int) - 1), .int .i64 (m : Nat)] w' fun e w2 => e = .returned (.string ⟨(r.text m).toArray⟩) ∧ Below w'.heap.size w' w2) := Lib.hid fun m w' hm hw' =>
   ihr hokr (by omega) (some ⟨b, off, none⟩) n c xs ((q : Int) - 1) (pre ++ l.steps) (x :: post) m w' (h.up hw') hxr' (by rw [List.length_append, hq1, ← hq]; omega) hm hn
  have HZL : Hid (∀ m, (l.text m).length ≤ 500) := Lib.hid fun m => by have := l.text_len m; omega
  have HZR : Hid (∀ m, (r.text m).length ≤ 500) := Lib.hid fun m => by have := r.text_len m; omega
  subst hl2; clear hat hxx hxl hl hx hxl' hxr' hlen hw ihl ihr hsl hq hq1 p1 p2 hokl hokr
  rcases hs with hs | hs
  ·obtain rfl : x = 8 := hs; obtain ⟨SL, hSL⟩ : ∃ x : ByteArray, (⟨(l.text 2).toArray⟩ : ByteArray) = x := ⟨_, rfl⟩; obtain ⟨SR, hSR⟩ : ∃ x : ByteArray, (⟨(r.text 3).toArray⟩ : ByteArray) = x := ⟨_, rfl⟩; have z1 : SL.size ≤ 500 := by rw [← hSL, sz_list]; exact HZL.out 2
   have z2 : SR.size ≤ 500 := by rw [← hSR, sz_list]; exact HZR.out 3
   have hT : (Cond.join 8 l r).text k = if 2 < k then 40 :: ((l.text 2 ++ 38 :: r.text 3) ++ [41]) else l.text 2 ++ 38 :: r.text 3 := by simp only [Cond.text]; rfl
   have HT := Lib.hid hT; have HSL := Bx.mk hSL; have HSR := Bx.mk hSR; have HE := Lib.hid (show SL ++ ⟨#[38]⟩ ++ SR = ⟨(l.text 2 ++ 38 :: r.text 3).toArray⟩ by rw [← hSL, ← hSR]; exact ba3S _ _ _); have n1 : ¬ 9223372036854775807 < SL.size + 1 := by omega
   have n2 : ¬ 9223372036854775807 < SL.size + 1 + SR.size := by omega
   clear hSL hSR hT HZL HZR; go_enter Tryz.func173, Tryz.ntmps173
   go_wp2_with fail
   refine (HSP.out _ (Below.refl _ _)).mono ?_; rintro e w1 ⟨rfl, rfl⟩
   go_wp2_with fail
   refine (HLT.out 2 _ (by omega) (Below.refl _ _)).mono ?_; rw [HSL.out]; rintro e w2 ⟨rfl, hb2⟩; have HB2 := Lib.hid hb2; clear hb2
   go_wp2_with fail
   refine (HRT.out 3 _ (by omega) HB2.out).mono ?_; rw [HSR.out]; rintro e w3 ⟨rfl, hb3⟩; have HB3 := Lib.hid (HB2.out.trans (hb3.mono HB2.out.size)); clear hb3
   by_cases hmk : 2 < k
   ·have hmk' : (2 : Int) < (k : Int) := by omega
    have n3 : ¬ 9223372036854775807 < 1 + (SL.size + 1 + SR.size) := by omega
    have n4 : ¬ 9223372036854775807 < 1 + (SL.size + 1 + SR.size) + 1 := by omega
    have HV := Lib.hid (show (⟨#[40]⟩ ++ (SL ++ ⟨#[38]⟩ ++ SR) ++ ⟨#[41]⟩ : ByteArray) = ⟨((Cond.join 8 l r).text k).toArray⟩ by rw [HT.out, if_pos hmk, HE.out]; exact baB _); clear hmk; go_wp2; go_ret; exact ⟨ret_ba HV.out, HB3.out⟩
   ·have hmk' : ¬ (2 : Int) < (k : Int) := by omega
    have HV := Lib.hid (show (SL ++ ⟨#[38]⟩ ++ SR : ByteArray) = ⟨((Cond.join 8 l r).text k).toArray⟩ by rw [HT.out, if_neg hmk, HE.out]); clear hmk; go_wp2; go_ret; exact ⟨ret_ba HV.out, HB3.out⟩
  ·obtain rfl : x = 9 := hs; obtain ⟨SL, hSL⟩ : ∃ x : ByteArray, (⟨(l.text 1).toArray⟩ : ByteArray) = x := ⟨_, rfl⟩; obtain ⟨SR, hSR⟩ : ∃ x : ByteArray, (⟨(r.text 2).toArray⟩ : ByteArray) = x := ⟨_, rfl⟩; have z1 : SL.size ≤ 500 := by rw [← hSL, sz_list]; exact HZL.out 1
   have z2 : SR.size ≤ 500 := by rw [← hSR, sz_list]; exact HZR.out 2
   have hT : (Cond.join 9 l r).text k = if 1 < k then 40 :: ((l.text 1 ++ 124 :: r.text 2) ++ [41]) else l.text 1 ++ 124 :: r.text 2 := by simp only [Cond.text]; rfl
   have HT := Lib.hid hT; have HSL := Bx.mk hSL; have HSR := Bx.mk hSR; have HE := Lib.hid (show SL ++ ⟨#[124]⟩ ++ SR = ⟨(l.text 1 ++ 124 :: r.text 2).toArray⟩ by rw [← hSL, ← hSR]; exact ba3S _ _ _); have n1 : ¬ 9223372036854775807 < SL.size + 1 := by omega
   have n2 : ¬ 9223372036854775807 < SL.size + 1 + SR.size := by omega
   clear hSL hSR hT HZL HZR; go_enter Tryz.func173, Tryz.ntmps173
   go_wp2_with fail
   refine (HSP.out _ (Below.refl _ _)).mono ?_; rintro e w1 ⟨rfl, rfl⟩
   go_wp2_with fail
   refine (HLT.out 1 _ (by omega) (Below.refl _ _)).mono ?_; rw [HSL.out]; rintro e w2 ⟨rfl, hb2⟩; have HB2 := Lib.hid hb2; clear hb2
   go_wp2_with fail
   refine (HRT.out 2 _ (by omega) HB2.out).mono ?_; rw [HSR.out]; rintro e w3 ⟨rfl, hb3⟩; have HB3 := Lib.hid (HB2.out.trans (hb3.mono HB2.out.size)); clear hb3
   by_cases hmk : 1 < k
   ·have hmk' : (1 : Int) < (k : Int) := by omega
    have n3 : ¬ 9223372036854775807 < 1 + (SL.size + 1 + SR.size) := by omega
    have n4 : ¬ 9223372036854775807 < 1 + (SL.size + 1 + SR.size) + 1 := by omega
    have HV := Lib.hid (show (⟨#[40]⟩ ++ (SL ++ ⟨#[124]⟩ ++ SR) ++ ⟨#[41]⟩ : ByteArray) = ⟨((Cond.join 9 l r).text k).toArray⟩ by rw [HT.out, if_pos hmk, HE.out]; exact baB _); clear hmk; go_wp2; go_ret; exact ⟨ret_ba HV.out, HB3.out⟩
   ·have hmk' : ¬ (1 : Int) < (k : Int) := by omega
    have HV := Lib.hid (show (SL ++ ⟨#[124]⟩ ++ SR : ByteArray) = ⟨((Cond.join 9 l r).text k).toArray⟩ by rw [HT.out, if_neg hmk, HE.out]); clear hmk; go_wp2; go_ret; exact ⟨ret_ba HV.out, HB3.out⟩
set_option maxRecDepth 100000 in
theorem codeText_spec (A : Option Addr) (n c : Nat) (xs : List Int) (w : World) (h : RdI .i64 w w.heap.size A n c xs) (hn : n ≤ 1099511627776) :
  Calls Tryz.prog 127 #[.slice A n c] w fun e w' => e = .returned (.string ⟨(codeT xs).toArray⟩) ∧ Below w.heap.size w w' := by
 cases hok : codeOk xs with
 | false =>
  have HT : Hid (codeT xs = []) := Lib.hid (by unfold codeT; rw [hok]; rfl); go_enter Tryz.func127, Tryz.ntmps127
  go_wp2_with fail
  refine (codeValid_spec A n c xs _ h hn).mono ?_; rw [hok]; rintro e w1 ⟨rfl, rfl⟩; go_wp2; go_ret; exact ⟨ret_ba (a := ⟨#[]⟩) (by rw [HT.out]), Below.refl _ _⟩
 | true =>
  have HT : Hid (codeT xs = (condOf xs).text 0) := Lib.hid (by unfold codeT; rw [hok]; rfl); obtain ⟨-, g2, g3⟩ := condOf_good hok; have h40 := ((codeOk_iff xs).1 hok).2.1; have hl := h.len
  have HLT : Hid (∀ w' : World, w = w' → Calls Tryz.prog 173 #[.slice A n c, .int .i64 ((n : Int) - 1), .int .i64 (0 : Nat)] w' fun e w2 => e = .returned (.string ⟨((condOf xs).text 0).toArray⟩) ∧ Below w'.heap.size w' w2) := Lib.hid fun w' hw' => by
   subst hw'; exact l5Text_any (condOf xs) g2 (by rw [g3]; omega) A n c xs ((n : Int) - 1) [] [] 0 w h (by rw [g3]; simp) (by rw [g3, hl]; simp) (by omega) (by omega)
  have H := Lib.hid h; have HOK := Lib.hid hok; clear h hok g2 g3 hl h40; go_enter Tryz.func127, Tryz.ntmps127
  go_wp2_with fail
  refine (codeValid_spec A n c xs _ H.out hn).mono ?_; rw [HOK.out]; rintro e w1 ⟨rfl, rfl⟩
  go_wp2_with fail
  refine (HLT.out _ rfl).mono ?_; rintro e w2 ⟨rfl, hb2⟩; have HB2 := Lib.hid hb2; clear hb2; go_wp2; go_ret; exact ⟨ret_ba (by rw [HT.out]), HB2.out⟩
end Go.Proofs.YtkmcengmglgdeaaGreatDoor


namespace Go.Proofs.YtkmcengmglgdeaaGreatDoor
set_option linter.unusedVariables false
set_option linter.unusedSimpArgs false
open Go.ChangeShapes Go.WideShapes Go.ChangeAt Go.RowKit

theorem planT_nil : planT [] = planW := by simp [planT]
theorem planT_snoc {p : List Int} {k : Nat} {x : Int} (h : p[k]? = some x) : planT (p.take (k + 1)) = planT (p.take k) ++ 32 :: decT x.toNat := by
 unfold planT
 rw [List.take_add_one, h]
 simp
theorem planT_len {p : List Int} (h : ∀ x ∈ p, 0 ≤ x ∧ x < 6) : (planT p).length ≤ 4 + 3 * p.length := by
 unfold planT
 rw [List.length_append]
 have : (p.flatMap fun k => 32 :: decT k.toNat).length ≤ 3 * p.length := by
  induction p with
  | nil => simp
  | cons z p ih =>
   have h3 := decT_len 1 z.toNat (by have := h z (List.mem_cons_self ..); omega)
   have := ih fun x hx => h x (List.mem_cons_of_mem _ hx)
   simp only [List.flatMap_cons, List.length_append, List.length_cons]; omega
 have e : planW.length = 4 := rfl
 omega
theorem proofT_plan {t : TaskD} {p : List Int} (hok : taskOk t = true) (h : planFor t = some p) : proofT t = planT p := by unfold proofT; rw [if_pos hok, h]
theorem proofT_sum {t : TaskD} {f : Nat} (hok : taskOk t = true) (h : planFor t = none) (hs : sumFor t = some f) : proofT t = sumW ++ 32 :: letT f := by unfold proofT; rw [if_pos hok, h, hs]
theorem proofT_closed {t : TaskD} (hok : taskOk t = true) (h : planFor t = none) (hs : sumFor t = none) : proofT t = closedW ++ 32 :: decT (mset (fwd t.deeds (only t.start.toNat) 32) 32) := by unfold proofT; rw [if_pos hok, h, hs]
theorem sum_cat (l : List UInt8) : (⟨#[115, 117, 109, 32]⟩ ++ ⟨l.toArray⟩ : ByteArray) = ⟨(sumW ++ 32 :: l).toArray⟩ := by
 rw [show (⟨#[115, 117, 109, 32]⟩ : ByteArray) = ⟨[115, 117, 109, 32].toArray⟩ from rfl, ba_app]; rfl
theorem closed_cat (l : List UInt8) : (⟨#[99, 108, 111, 115, 101, 100, 32]⟩ ++ ⟨l.toArray⟩ : ByteArray) = ⟨(closedW ++ 32 :: l).toArray⟩ := by
 rw [show (⟨#[99, 108, 111, 115, 101, 100, 32]⟩ : ByteArray) = ⟨[99, 108, 111, 115, 101, 100, 32].toArray⟩ from rfl, ba_app]; rfl
theorem sumFor_lt {t : TaskD} {f : Nat} (h : sumFor t = some f) : f < 32 := by simpa using List.mem_of_find?_eq_some h
set_option maxRecDepth 100000 in
set_option maxHeartbeats 2000000 in
theorem proofText_impl (v : Value) (t : TaskD) (w : World) (h : RdT w w.heap.size v t) (hok : taskOk t = true) (hp : PowTab w) :
  Calls Tryz.prog 117 #[v] w fun e w' => e = .returned (.string ⟨(proofT t).toArray⟩) ∧ Below w.heap.size w w' := by
 have h' := h; obtain ⟨G, gn, gc, G', n', c', rfl, hg, hgs, hds, hst⟩ := h; have HS0 := Lib.hid ((St.refl w).alloc #[.int .i64 t.start, .slice G gn gc, .slice G' n' c'] 26); have HT := Lib.hid h'; have HOK := Lib.hid hok; have HPW := Lib.hid hp; obtain ⟨o, ho⟩ : ∃ o, planFor t = o := ⟨_, rfl⟩; have HO := Bx.mk ho; clear h' hg hds hst hok ho hp; go_enter Tryz.func117, Tryz.ntmps117
 go_wp2_with fail
 refine (taskValid_impl _ t _ (HT.out.up HS0.out.below)).mono ?_; rw [HOK.out]; rintro e w1 ⟨rfl, hb1⟩; have HS1 := Lib.hid (HS0.out.quiet hb1); clear hb1 HS0; have q1 := HS1.out.cells 0 rfl
 go_wp2_with fail
 refine (planFor_impl _ t _ (HT.out.up HS1.out.below)).mono ?_; rw [HO.out]; rintro e w2 ⟨v2, rfl, s2⟩; obtain ⟨PA, pc, hv2, hrd⟩ := s2.rdI 0 rfl; subst hv2; have HS2 := Lib.hid (HS1.out.quiet s2.below); have HRD := Lib.hid hrd; clear s2 hrd HS1 q1; have q2 := HS2.out.cells 0 rfl
 cases o with
 | some p =>
  simp only [Option.getD_some, Option.isSome_some] at HRD ⊢
  have HPS := Lib.hid (planFor_small HO.out); have hp31 : p.length ≤ 31 := (planFor_run HO.out).1; have HPT := Bx.mk (proofT_plan HOK.out HO.out); obtain ⟨n, hn⟩ : ∃ n, p.length = n := ⟨_, rfl⟩; rw [hn] at HRD hp31 ⊢
  have HN := Lib.hid hn; obtain ⟨b, hb⟩ : ∃ b, w2.heap.size = b := ⟨_, rfl⟩; have HT0 : Hid (TS w2 b [] [] (w2.alloc (.cells #[.pointer none, .slice none 0 0] 117))) := Lib.hid (by rw [← hb]; exact TS.new0 w2); have HB2 := Lib.hid HS2.out.below; clear hn HS2
  go_wp2_with fail
  try rw [hb]
  refine (HT0.out.ws _ planW rfl (by decide)).mono ?_; rintro e w3 ⟨rfl, h3⟩; have HT3 : Hid (TS w2 b (planT (p.take 0)) [] w3) := Lib.hid (by rw [List.take_zero, planT_nil]; exact h3); clear h3 HT0 hb q2; go_wp2
  go_loopw [22] (fun i wr => ∃ k : Nat, k ≤ n ∧ i = .int .i64 (k : Int) ∧ Hid (TS w2 b (planT (p.take k)) [] wr)) (fun i _ => n - (intOf i).toNat)
  case atStart => exact ⟨0, by omega, rfl, HT3⟩
  case round =>
   clear HT3; obtain ⟨k, hk, rfl, HTB⟩ := hrel
   by_cases hlt : k < n
   ·obtain ⟨db, off, x, rfl, hdb, hxx, hw, hc⟩ := (HRD.out.up HTB.out.below).get hlt; have hxm := HPS.out x (List.mem_of_getElem? hxx); obtain ⟨x, rfl⟩ := Int.eq_ofNat_of_zero_le hxm.1; have hx100 : x < 100 := by omega
    have HZ := Lib.hid (show (planT (p.take k)).length ≤ 200 by
     have h1 := planT_len (p := p.take k) fun x hx => HPS.out x (List.mem_of_mem_take hx)
     have : (p.take k).length ≤ k := List.length_take_le _ _
     omega)
    have HN2 := Lib.hid (num2_len x).2; have HSN : Hid (planT (p.take (k + 1)) = planT (p.take k) ++ 32 :: num2 x) := Lib.hid (by rw [planT_snoc hxx, Int.toNat_natCast, decT_100 hx100]); clear hw hxx hxm hdb
    go_wp2_with fail
    refine (HTB.out.wb 32 (by have := HZ.out; omega)).mono ?_; rintro e w4 ⟨rfl, h4⟩; have HT4 := Lib.hid h4; clear h4 hc
    go_wp2_with fail
    refine (itoa_small x hx100 _).mono ?_; rintro e w5 ⟨rfl, rfl⟩
    go_wp2_with fail
    refine (HT4.out.ws _ (num2 x) rfl (by have := HZ.out; have := HN2.out; simp only [List.length_append, List.length_cons, List.length_nil]; omega)).mono ?_; rintro e w6 ⟨rfl, h6⟩; have HT6 : Hid (TS w2 b (planT (p.take (k + 1))) [] w6) := Lib.hid (by rw [HSN.out]; simpa using h6); clear h6 HT4 HTB; go_wp2
    go_roundw
    case rel => exact ⟨k + 1, by omega, by go_num, HT6⟩
    case measure => simp [intOf]; omega
   ·have hke : k = n := by omega
    have HE : Hid (proofT t = planT (p.take k)) := Lib.hid (by rw [HPT.out, hke, ← HN.out, List.take_length]); clear hke
    go_wp2_with fail
    refine HTB.out.done.mono ?_; rintro e w4 ⟨rfl, hb4⟩; have HB := Lib.hid (HB2.out.trans (hb4.mono HB2.out.size)); clear hb4; go_wp2; go_ret; exact ⟨ret_ba (by rw [HE.out]), HB.out⟩
 | none =>
  simp only [Option.getD_none, Option.isSome_none] at HRD ⊢
  obtain ⟨u, hu⟩ : ∃ u, sumFor t = u := ⟨_, rfl⟩; have HU := Bx.mk hu; clear hu HRD
  go_wp2_with fail
  refine (sumFor_impl _ t _ (HT.out.up HS2.out.below) HOK.out).mono ?_; rw [HU.out]; rintro e w3 ⟨rfl, hb3⟩; have HS3 := Lib.hid (HS2.out.quiet hb3); clear hb3 q2 HS2; have q3 := HS3.out.cells 0 rfl
  cases u with
  | some f =>
   simp only [Option.isSome_some, opt]; have hf32 := sumFor_lt HU.out; obtain ⟨SF, hSF⟩ : ∃ x : ByteArray, (⟨(letT f).toArray⟩ : ByteArray) = x := ⟨_, rfl⟩; have hz : ¬ 9223372036854775807 < 4 + SF.size := by rw [← hSF, sz_list]; have := letT_len f; omega
   have HV : Hid (⟨#[115, 117, 109, 32]⟩ ++ SF = ⟨(proofT t).toArray⟩) := Lib.hid (by rw [proofT_sum HOK.out HO.out HU.out, ← hSF]; exact sum_cat _); have HSF := Bx.mk hSF; clear hSF
   go_wp2_with fail
   refine (factLetters_any f hf32 _).mono ?_; rw [HSF.out]; rintro e w4 ⟨rfl, hb4⟩; have HB := Lib.hid (HS3.out.quiet hb4).below; clear hb4; go_wp2; go_ret; exact ⟨ret_ba HV.out, HB.out⟩
  | none =>
   simp only [Option.isSome_none, opt]; obtain ⟨R, hR⟩ : ∃ R, mset (fwd t.deeds (only t.start.toNat) 32) 32 = R := ⟨_, rfl⟩; have hRl : R < 4294967296 := by rw [← hR]; exact mset32_lt _
   have HRC : Hid (reached t = (R : Int)) := Lib.hid (by unfold reached; rw [if_pos HOK.out, hR]); obtain ⟨SF, hSF⟩ : ∃ x : ByteArray, (⟨(decT R).toArray⟩ : ByteArray) = x := ⟨_, rfl⟩; have hz : ¬ 9223372036854775807 < 7 + SF.size := by rw [← hSF, sz_list]; have := decT_len 9 R (by omega); omega
   have HV : Hid (⟨#[99, 108, 111, 115, 101, 100, 32]⟩ ++ SF = ⟨(proofT t).toArray⟩) := Lib.hid (by rw [proofT_closed HOK.out HO.out HU.out, ← hSF, hR]; exact closed_cat _); have HSF := Bx.mk hSF; clear hSF hR
   go_wp2_with fail
   refine (reached_impl _ t _ (HT.out.up HS3.out.below)).mono ?_; rw [HRC.out]; rintro e w4 ⟨rfl, hb4⟩; have HS4 := Lib.hid (HS3.out.quiet hb4); clear hb4 q3 HS3
   go_wp2_with fail
   refine (itoa_dec R (by omega) _ (HPW.out.up HS4.out.below)).mono ?_; rw [HSF.out]; rintro e w5 ⟨rfl, hb5⟩; have HB := Lib.hid (HS4.out.quiet hb5).below; clear hb5; go_wp2; go_ret; exact ⟨ret_ba HV.out, HB.out⟩
set_option maxRecDepth 100000 in
set_option maxHeartbeats 2000000 in
theorem proofText_spec (v : Value) (t : TaskD) (w : World) (h : RdT w w.heap.size v t) (hok : taskOk t = true) :
  Calls Tryz.prog 44 #[v] w fun e w' => e = .returned (.string ⟨(proofT t).toArray⟩) ∧ Below w.heap.size w w' := by
 have h' := h; obtain ⟨G, gn, gc, G', n', c', rfl, hg, hgs, hds, hst⟩ := h; have HS0 := Lib.hid ((St.refl w).alloc #[.int .i64 t.start, .slice G gn gc, .slice G' n' c'] 26); have HT := Lib.hid h'; have HOK := Lib.hid hok; obtain ⟨o, ho⟩ : ∃ o, planFor t = o := ⟨_, rfl⟩; have HO := Bx.mk ho; clear h' hg hds hst hok ho; go_enter Tryz.func44, Tryz.ntmps44
 go_wp2_with fail
 refine (taskValid_spec _ t _ (HT.out.up HS0.out.below)).mono ?_; rw [HOK.out]; rintro e w1 ⟨rfl, hb1⟩; have HS1 := Lib.hid (HS0.out.quiet hb1); clear hb1 HS0; have q1 := HS1.out.cells 0 rfl
 go_wp2_with fail
 refine (planFor_spec _ t _ (HT.out.up HS1.out.below)).mono ?_; rw [HO.out]; rintro e w2 ⟨v2, rfl, s2⟩; obtain ⟨PA, pc, hv2, hrd⟩ := s2.rdI 0 rfl; subst hv2; have HS2 := Lib.hid (HS1.out.quiet s2.below); have HRD := Lib.hid hrd; clear s2 hrd HS1 q1; have q2 := HS2.out.cells 0 rfl
 cases o with
 | some p =>
  simp only [Option.getD_some, Option.isSome_some] at HRD ⊢
  have HPS := Lib.hid (planFor_small HO.out); have hp31 : p.length ≤ 31 := (planFor_run HO.out).1; have HPT := Bx.mk (proofT_plan HOK.out HO.out); obtain ⟨n, hn⟩ : ∃ n, p.length = n := ⟨_, rfl⟩; rw [hn] at HRD hp31 ⊢
  have HN := Lib.hid hn; have HB2 := Lib.hid HS2.out.below; clear hn HS2 q2; go_wp2
  go_loopw [6, 5] (fun i sv wr => ∃ (k : Nat) (q : ByteArray), k ≤ n ∧ i = .int .i64 (k : Int) ∧ sv = .string q ∧ Hid (q = ⟨(planT (p.take k)).toArray⟩) ∧ Below w2.heap.size w2 wr) (fun i _ _ => n - (intOf i).toNat)
  case atStart => exact ⟨0, _, by omega, rfl, rfl, Lib.hid (by rw [List.take_zero, planT_nil]; rfl), Below.refl _ _⟩
  case round =>
   obtain ⟨k, q, hk, rfl, rfl, HQ, hbel⟩ := hrel; have HB := Lib.hid hbel; clear hbel
   by_cases hlt : k < n
   ·obtain ⟨db, off, x, rfl, hdb, hxx, hw, hc⟩ := (HRD.out.up HB.out).get hlt; have hxm := HPS.out x (List.mem_of_getElem? hxx); obtain ⟨x, rfl⟩ := Int.eq_ofNat_of_zero_le hxm.1; have hx100 : x < 100 := by omega
    have hq : q.size ≤ 200 := by
     rw [HQ.out, sz_list]; have h1 := planT_len (p := p.take k) fun x hx => HPS.out x (List.mem_of_mem_take hx)
     have : (p.take k).length ≤ k := List.length_take_le _ _
     omega
    obtain ⟨SX, hSX⟩ : ∃ x' : ByteArray, (⟨(num2 x).toArray⟩ : ByteArray) = x' := ⟨_, rfl⟩; have hsx : SX.size ≤ 2 := by rw [← hSX, sz_list]; exact (num2_len x).2
    have hz1 : ¬ 9223372036854775807 < q.size + 1 := by omega
    have hz2 : ¬ 9223372036854775807 < q.size + 1 + SX.size := by omega
    have HQ2 : Hid (q ++ ⟨#[32]⟩ ++ SX = ⟨(planT (p.take (k + 1))).toArray⟩) := Lib.hid (by rw [planT_snoc hxx, Int.toNat_natCast, decT_100 hx100, HQ.out, ← hSX]; exact ba3S _ _ _); have HSX := Bx.mk hSX; clear hw hxx hxm hdb hSX
    go_wp2_with fail
    refine (l1Number_small x hx100 _).mono ?_; rw [HSX.out]; rintro e w5 ⟨rfl, hb5⟩; have HB5 := Lib.hid (HB.out.trans (hb5.mono HB.out.size)); clear hb5 hc; go_wp2
    go_roundw
    case rel => exact ⟨k + 1, _, by omega, by go_num, rfl, HQ2, HB5.out⟩
    case measure => simp [intOf]; omega
   ·have hke : k = n := by omega
    have HE : Hid (q = ⟨(proofT t).toArray⟩) := Lib.hid (by rw [HQ.out, HPT.out, hke, ← HN.out, List.take_length]); have HBB := Lib.hid (HB2.out.trans (HB.out.mono HB2.out.size)); clear hke HQ; go_wp2; go_ret; exact ⟨ret_ba HE.out, HBB.out⟩
 | none =>
  simp only [Option.getD_none, Option.isSome_none] at HRD ⊢
  obtain ⟨u, hu⟩ : ∃ u, sumFor t = u := ⟨_, rfl⟩; have HU := Bx.mk hu; clear hu HRD
  go_wp2_with fail
  refine (sumFor_spec _ t _ (HT.out.up HS2.out.below) HOK.out).mono ?_; rw [HU.out]; rintro e w3 ⟨rfl, hb3⟩; have HS3 := Lib.hid (HS2.out.quiet hb3); clear hb3 q2 HS2; have q3 := HS3.out.cells 0 rfl
  cases u with
  | some f =>
   simp only [Option.isSome_some, opt]; have hf32 := sumFor_lt HU.out; obtain ⟨SF, hSF⟩ : ∃ x : ByteArray, (⟨(letT f).toArray⟩ : ByteArray) = x := ⟨_, rfl⟩; have hz : ¬ 9223372036854775807 < 4 + SF.size := by rw [← hSF, sz_list]; have := letT_len f; omega
   have HV : Hid (⟨#[115, 117, 109, 32]⟩ ++ SF = ⟨(proofT t).toArray⟩) := Lib.hid (by rw [proofT_sum HOK.out HO.out HU.out, ← hSF]; exact sum_cat _); have HSF := Bx.mk hSF; clear hSF
   go_wp2_with fail
   refine (l6Letters_any f hf32 _).mono ?_; rw [HSF.out]; rintro e w4 ⟨rfl, hb4⟩; have HB := Lib.hid (HS3.out.quiet hb4).below; clear hb4; go_wp2; go_ret; exact ⟨ret_ba HV.out, HB.out⟩
  | none =>
   simp only [Option.isSome_none, opt]; obtain ⟨R, hR⟩ : ∃ R, mset (fwd t.deeds (only t.start.toNat) 32) 32 = R := ⟨_, rfl⟩; have hRl : R < 4294967296 := by rw [← hR]; exact mset32_lt _
   obtain ⟨SF, hSF⟩ : ∃ x : ByteArray, (⟨(decT R).toArray⟩ : ByteArray) = x := ⟨_, rfl⟩; have hz : ¬ 9223372036854775807 < 7 + SF.size := by rw [← hSF, sz_list]; have := decT_len 9 R (by omega); omega
   have HV : Hid (⟨#[99, 108, 111, 115, 101, 100, 32]⟩ ++ SF = ⟨(proofT t).toArray⟩) := Lib.hid (by rw [proofT_closed HOK.out HO.out HU.out, ← hSF, hR]; exact closed_cat _); have HSF := Bx.mk hSF; have HRR := Bx.mk hR; clear hSF hR
   go_wp2_with fail
   refine (reached_spec _ t _ (HT.out.up HS3.out.below) HOK.out).mono ?_; rw [HRR.out]; rintro e w4 ⟨rfl, hb4⟩; have HS4 := Lib.hid (HS3.out.quiet hb4); clear hb4 q3 HS3
   go_wp2_with fail
   refine (l1Number_dec R (by omega) _).mono ?_; rw [HSF.out]; rintro e w5 ⟨rfl, hb5⟩; have HB := Lib.hid (HS4.out.quiet hb5).below; clear hb5; go_wp2; go_ret; exact ⟨ret_ba HV.out, HB.out⟩
end Go.Proofs.YtkmcengmglgdeaaGreatDoor
