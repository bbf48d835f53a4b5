/- Joined texts: EndP, SayQ, TB, MayT, CondI. -/
import Derived.Test.YtkmcengmglgdeaaGreatDoorSRunB
import Derived.Test.YtkmcengmglgdeaaGreatDoorSDoI
import Derived.Test.YtkmcengmglgdeaaGreatDoorSLaid
import Derived.Test.YtkmcengmglgdeaaGreatDoorSJourP
import Derived.Test.YtkmcengmglgdeaaGreatDoorSActsH
import Derived.Test.YtkmcengmglgdeaaGreatDoorSActT

namespace Go.Proofs.YtkmcengmglgdeaaGreatDoor
set_option linter.unusedVariables false
set_option linter.unusedSimpArgs false

end Go.Proofs.YtkmcengmglgdeaaGreatDoor


namespace Go.Proofs.YtkmcengmglgdeaaGreatDoor
set_option linter.unusedVariables false
set_option linter.unusedSimpArgs false

def okW : List UInt8 := [111, 107]
def noW : List UInt8 := [110, 111]
def noneW : List UInt8 := [110, 111, 110, 101]
def yesW : List UInt8 := [121, 101, 115]
def whatW : List UInt8 := [119, 104, 97, 116]
def canW : List UInt8 := [99, 97, 110]
def cannotW : List UInt8 := [99, 97, 110, 110, 111, 116]
def nothingW : List UInt8 := [110, 111, 116, 104, 105, 110, 103]
def finishW : List UInt8 := [102, 105, 110, 105, 115, 104]
def stateW : List UInt8 := [115, 116, 97, 116, 101]
def taskW : List UInt8 := [116, 97, 115, 107]
def doneW : List UInt8 := [100, 111, 110, 101]
def mayW : List UInt8 := [109, 97, 121]
def leftW : List UInt8 := [108, 101, 102, 116]
def endedW : List UInt8 := [101, 110, 100, 101, 100]
def proofW : List UInt8 := [112, 114, 111, 111, 102]
def checkW : List UInt8 := [99, 104, 101, 99, 107, 32]

def taskT (t : TaskD) : List UInt8 :=
 letT t.start.toNat ++ 62 :: (codeT t.goal ++ t.deeds.flatMap fun d => 59 :: (codeT d.need ++ 58 :: (letT d.on.toNat ++ 44 :: (letT d.off.toNat ++ 44 :: letT d.flip.toNat))))
def mayT : List Int → List UInt8
 | [] => noneW
 | x :: r => decT x.toNat ++ r.flatMap fun k => 44 :: decT k.toNat
def verdictW (z : Int) : List UInt8 := if z = 1 then canW else if z = 0 then cannotW else nothingW
def askT (b : BookD) (line : List UInt8) : List UInt8 :=
 if line = stateW then letT b.state.toNat
 else if line = taskW then taskT b.order
 else if line = doneW then decT b.done.length
 else if line = mayW then mayT (deedsMay b.order b.state)
 else if line = leftW then (match restFor b with | none => noneW | some p => decT p.length)
 else if line = endedW then (if bookEnded b then yesW else noW)
 else if line = proofW then proofT (taskFrom b)
 else if checkW.isPrefixOf line = true ∧ 6 < line.length then verdictW (proofRight (taskFrom b) (line.drop 6))
 else whatW
def sayB (b : BookD) (line : List UInt8) : BookD × List UInt8 :=
 if bookOk b then
  match readA line with
  | some (k, n) => (bookDo b ⟨k, n⟩, if bookDid b ⟨k, n⟩ then okW else noW)
  | none => if line = finishW then ((bookRun b (endActs b)).1, if (endActs b).length = 0 then noneW else okW) else (b, askT b line)
 else (zeroB, [])

theorem bookRun_nil {b : BookD} (h : bookOk b = true) : bookRun b [] = (b, 0) := by
 unfold bookRun; rw [h]; simp [runB]
theorem bookRun_ok {b : BookD} {aa : List ActD} (h : bookOk b = true) (hl : aa.length ≤ 40) : bookOk (bookRun b aa).1 = true ∧ (bookRun b aa).1.order = b.order := by
 unfold bookRun
 rw [h, decide_eq_true hl]; exact ⟨(runB_ok aa h).1, (runB_ok aa h).2.1⟩
theorem sayB_ok {b : BookD} (line : List UInt8) (h : bookOk b = true) : bookOk (sayB b line).1 = true ∧ (sayB b line).1.order = b.order ∧ ((sayB b line).2 = okW ∨ (sayB b line).1 = b) := by
 unfold sayB
 rw [if_pos h]
 cases hr : readA line with
 | some a =>
  obtain ⟨k, n⟩ := a; refine ⟨bookDo_ok _ h, bookDo_order _ h, ?_⟩
  show (if bookDid b ⟨k, n⟩ then okW else noW) = okW ∨ bookDo b ⟨k, n⟩ = b
  cases hd : doneAfter b ⟨k, n⟩ with
  | some d => left; rw [(bookDo_some h hd).2]; rfl
  | none => right; exact (bookDo_none h hd).1
 | none =>
  show bookOk (if line = finishW then _ else (b, askT b line)).1 = true ∧ _
  by_cases hf : line = finishW
  ·simp only [if_pos hf]; obtain ⟨h1, h2⟩ := bookRun_ok (aa := endActs b) h (Nat.le_trans (endActs_len b) (by decide)); refine ⟨h1, h2, ?_⟩
   by_cases he : (endActs b).length = 0
   ·right
    rw [List.length_eq_zero_iff.1 he, bookRun_nil h]
   ·left; rw [if_neg he]
  ·simp only [if_neg hf]; exact ⟨h, by trivial, .inr (by trivial)⟩
def saysB (b : BookD) : List (List UInt8) → BookD × List (List UInt8)
 | [] => (b, [])
 | l :: ls => ((saysB (sayB b l).1 ls).1, (sayB b l).2 :: (saysB (sayB b l).1 ls).2)
def bookSay (b : BookD) (ls : List (List UInt8)) : BookD × List (List UInt8) := if bookOk b && decide (ls.length ≤ 40) then saysB b ls else (zeroB, [])
def saysK (b : BookD) (ls : List (List UInt8)) (k : Nat) : BookD × List (List UInt8) := saysB b (ls.take k)
end Go.Proofs.YtkmcengmglgdeaaGreatDoor


namespace Go.Proofs.YtkmcengmglgdeaaGreatDoor
set_option linter.unusedVariables false
set_option linter.unusedSimpArgs false
open Go.ChangeShapes Go.WideShapes Go.ChangeAt Go.RowKit

theorem Kept.blk {b : Nat} {w w' : World} (h : Kept b w w') {g : Nat} {t : TypeId} {cs : Array Value} (k : Blk w g t cs) (hg : g ≠ b) (ht : t ≠ 5) : Blk w' g t cs :=
 h g _ k (fun e => hg (Option.some.inj e)) (fun c fz e => ht (by injection e))
theorem bat_low {T e : TypeId} {B B' b : Nat} {p : Value} {bs : List Value} {w : World} (h : Lib.BuilderAt T e B b p bs w) (hB : B' ≤ B) : Lib.BuilderAt T e B' b p bs w := by
 obtain ⟨h1, v, h2, h3, h4⟩ := h; exact ⟨Nat.le_trans hB h1, v, h2, own_mono h3 hB, h4⟩
structure TS (w : World) (b : Nat) (l : List UInt8) (Bs : List (Nat × TypeId × Array Value)) (wr : World) : Prop where
 isb : IsB w.heap.size b l wr
 below : Below w.heap.size w wr
 len : l.length ≤ 1000000
 blks : ∀ (i : Nat) x, Bs[i]? = some x → Blk wr x.1 x.2.1 x.2.2 ∧ x.1 ≠ b ∧ x.2.1 ≠ 5
section
variable {w wr w' : World} {b : Nat} {l : List UInt8} {Bs : List (Nat × TypeId × Array Value)}
theorem TS.cell (h : TS w b l Bs wr) (i : Nat) {g : Nat} {t : TypeId} {cs : Array Value} (hi : Bs[i]? = some (g, t, cs)) : ∀ j, wr.cell? ⟨g, j, none⟩ = cs[j]? := (h.blks i _ hi).1.cell
theorem TS.quiet (h : TS w b l Bs wr) (k : Below wr.heap.size wr w') : TS w b l Bs w' :=
 ⟨h.isb.later k, h.below.trans (k.mono h.below.size), h.len, fun i x hx => by
  obtain ⟨h1, h2⟩ := h.blks i x hx
  exact ⟨(k.block x.1 h1.lt).trans h1, h2⟩⟩
theorem TS.alloc (h : TS w b l Bs wr) (cs : Array Value) (t : TypeId) (ht : t ≠ 5) : TS w b l ((wr.heap.size, t, cs) :: Bs) (wr.alloc (.cells cs t)) :=
 have hq := h.quiet ((Below.refl _ _).alloc (Nat.le_refl _) (.cells cs t))
 ⟨hq.isb, hq.below, h.len, fun i x hx => by
  match i with
  | 0 =>
   injection hx with hx; subst hx
   exact ⟨Blk.new wr t cs, (Nat.ne_of_lt (isB_lt h.isb)).symm, ht⟩
  | i + 1 => exact hq.blks i x hx⟩
theorem TS.tl {x : Nat × TypeId × Array Value} (h : TS w b l (x :: Bs) wr) : TS w b l Bs wr := ⟨h.isb, h.below, h.len, fun i y hy => h.blks (i + 1) y hy⟩
theorem TS.wb (h : TS w b l Bs wr) (c : UInt8) (hl : l.length + 1 ≤ 1000000) :
  Calls Tryz.prog 97 #[.pointer (some ⟨b, 0, none⟩), .int .u8 c.toNat] wr fun e w' => e = .returned .nilIface ∧ TS w b (l ++ [c]) Bs w' :=
 (writeByte_k w.heap.size b l c wr h.isb (by omega) h.below.size).mono fun _ _ ⟨he, h1, h2, h3⟩ => ⟨he, h1, h.below.trans h2, by simpa using hl, fun i x hx => by
  obtain ⟨k1, k2, k3⟩ := h.blks i x hx
  exact ⟨h3.blk k1 k2 k3, k2, k3⟩⟩
theorem TS.ws (h : TS w b l Bs wr) (s : ByteArray) (t : List UInt8) (ht : s = ⟨t.toArray⟩) (hl : l.length + t.length ≤ 1000000) :
  Calls Tryz.prog 96 #[.pointer (some ⟨b, 0, none⟩), .string s] wr fun e w' => e = .returned (.tuple #[.int .i64 s.size, .nilIface]) ∧ TS w b (l ++ t) Bs w' := by
 have hd : s.data.toList = t := by rw [ht]
 have hz : s.size = t.length := by rw [Lib.size_eq, hd]
 refine (writeString_k w.heap.size b l s wr h.isb (by omega) h.below.size).mono fun _ _ ⟨he, h1, h2, h3⟩ => ⟨he, by rw [hd] at h1; exact h1, h.below.trans h2, by simpa using hl, fun i x hx => ?_⟩
 obtain ⟨k1, k2, k3⟩ := h.blks i x hx; exact ⟨h3.blk k1 k2 k3, k2, k3⟩
theorem TS.done (h : TS w b l Bs wr) :
  Calls Tryz.prog 98 #[.pointer (some ⟨b, 0, none⟩)] wr fun e w' => e = .returned (.string ⟨l.toArray⟩) ∧ Below w.heap.size w w' :=
 (builderString_any w.heap.size b l wr h.isb h.below.size).mono fun _ _ ⟨he, h1⟩ => ⟨he, h.below.trans h1⟩
theorem TS.new2 (hb : Below w.heap.size w wr) {g : Nat} {t : TypeId} {cs : Array Value} (k : Blk wr g t cs) (hg : g < wr.heap.size) (e : wr.heap.size = b) (ht : t ≠ 5) :
  TS w b [] [(g, t, cs)] (wr.alloc (.cells #[.pointer none, .slice none 0 0] 117)) := by
 subst e
 have h1 : IsB w.heap.size wr.heap.size [] (wr.alloc (.cells #[.pointer none, .slice none 0 0] 117)) := by
  rcases Lib.fresh_isBuilder 117 5 wr with h | h
  ·exact .inl (bat_low h hb.size)
  ·exact .inr (bat_low h hb.size)
 have ha := (Below.refl wr.heap.size wr).alloc (Nat.le_refl _) (.cells #[.pointer none, .slice none 0 0] 117); refine ⟨h1, hb.trans (ha.mono hb.size), by simp, fun i x hx => ?_⟩
 match i with
 | 0 =>
  injection hx with hx; subst hx
  exact ⟨(ha.block g hg).trans k, by omega, ht⟩
 | i + 1 => simp at hx
theorem TS.new0 (w : World) : TS w w.heap.size [] [] (w.alloc (.cells #[.pointer none, .slice none 0 0] 117)) :=
 ⟨Lib.fresh_isBuilder 117 5 w, (Below.refl _ _).alloc (Nat.le_refl _) _, by simp, fun i x hx => by simp at hx⟩
end
end Go.Proofs.YtkmcengmglgdeaaGreatDoor


namespace Go.Proofs.YtkmcengmglgdeaaGreatDoor
set_option linter.unusedVariables false
set_option linter.unusedSimpArgs false
open Go.ChangeShapes Go.WideShapes Go.ChangeAt Go.RowKit

def mayP : List Int → List UInt8
 | [] => []
 | x :: r => decT x.toNat ++ r.flatMap fun k => 44 :: decT k.toNat
theorem mayP_may {xs : List Int} (h : xs ≠ []) : mayT xs = mayP xs := by
 cases xs with
 | nil => exact absurd rfl h
 | cons x r => rfl
theorem mayP_zero {xs : List Int} {x : Int} (h : xs[0]? = some x) : mayP (xs.take 1) = decT x.toNat := by
 cases xs with
 | nil => cases h
 | cons y r => simp at h; subst h; simp [mayP]
theorem mayP_succ {xs : List Int} {k : Nat} {x : Int} (h : xs[k + 1]? = some x) : mayP (xs.take (k + 2)) = mayP (xs.take (k + 1)) ++ 44 :: decT x.toNat := by
 cases xs with
 | nil => cases h
 | cons y r =>
  simp only [List.getElem?_cons_succ] at h; simp only [List.take_succ_cons, mayP]; rw [List.take_add_one, h]
  simp
theorem mayP_len {xs : List Int} (h : ∀ x ∈ xs, 0 ≤ x ∧ x < 100) : (mayP xs).length ≤ 3 * xs.length := by
 have hd : ∀ x : Int, 0 ≤ x ∧ x < 100 → (decT x.toNat).length ≤ 2 := fun x hx => decT_len 1 _ (by omega)
 cases xs with
 | nil => simp [mayP]
 | cons y r =>
  have h1 := hd y (h y (List.mem_cons_self ..))
  have h2 : (r.flatMap fun k => 44 :: decT k.toNat).length ≤ 3 * r.length := by
   have h' : ∀ x ∈ r, 0 ≤ x ∧ x < 100 := fun x hx => h x (List.mem_cons_of_mem _ hx)
   clear h h1
   induction r with
   | nil => simp
   | cons z r ih =>
    have h3 := hd z (h' z (List.mem_cons_self ..))
    have := ih fun x hx => h' x (List.mem_cons_of_mem _ hx)
    simp only [List.flatMap_cons, List.length_append, List.length_cons]; omega
  simp only [mayP, List.length_append, List.length_cons]; omega
set_option maxRecDepth 100000 in
set_option maxHeartbeats 1000000 in
theorem mayText_any (A : Option Addr) (n c : Nat) (xs : List Int) (w : World) (h : RdI .i64 w w.heap.size A n c xs) (hx : ∀ x ∈ xs, 0 ≤ x ∧ x < 100) (hn : n ≤ 100) :
  Calls Tryz.prog 115 #[.slice A n c] w fun e w' => e = .returned (.string ⟨(mayT xs).toArray⟩) ∧ Below w.heap.size w w' := by
 have hl := h.len
 by_cases h0 : n = 0
 ·subst h0; obtain rfl := List.eq_nil_of_length_eq_zero hl; go_enter Tryz.func115, Tryz.ntmps115; go_wp2; go_ret; exact ⟨rfl, Below.refl _ _⟩
 have h0' : ((n : Int) == 0) = false := beq_false_of_ne (by omega); have HM : Hid (mayT xs = mayP xs) := Lib.hid (mayP_may (by rintro rfl; exact h0 (by simpa using hl.symm))); have HL := Lib.hid hl; have HX := Lib.hid hx; have H := Lib.hid h; obtain ⟨b, hb⟩ : ∃ b, w.heap.size = b := ⟨_, rfl⟩; have HT0 : Hid (TS w b (mayP (xs.take 0)) [] (w.alloc (.cells #[.pointer none, .slice none 0 0] 117))) := Lib.hid (by rw [← hb]; exact TS.new0 w); clear hl hx h h0; go_enter Tryz.func115, Tryz.ntmps115; go_wp2
 try rw [hb]
 clear hb h0'
 go_loopw [11] (fun i wr => ∃ k : Nat, k ≤ n ∧ i = .int .i64 k ∧ Hid (TS w b (mayP (xs.take k)) [] wr)) (fun i _ => n - (intOf i).toNat)
 case atStart => exact ⟨0, by omega, rfl, HT0⟩
 case round =>
  clear HT0; obtain ⟨k, hk, rfl, HT⟩ := hrel
  by_cases hlt : k < n
  ·obtain ⟨db, off, x, rfl, hdb, hxx, hw, hc⟩ := H.out.get hlt; have hcr : wr.cell? ⟨db, off + k, none⟩ = some (.int .i64 x) := (bcells HT.out.below db _ hdb).trans hc; have hxm := HX.out x (List.mem_of_getElem? hxx); obtain ⟨x, rfl⟩ := Int.eq_ofNat_of_zero_le hxm.1; have hx100 : x < 100 := by omega
   have HZ := Lib.hid (show (mayP (xs.take k)).length ≤ 300 by
    have h1 := mayP_len (xs := xs.take k) fun x hx => HX.out x (List.mem_of_mem_take hx)
    have : (xs.take k).length ≤ k := List.length_take_le _ _
    omega)
   have HN2 := Lib.hid (num2_len x).2; have HD : Hid (decT x = num2 x) := Lib.hid (decT_100 hx100); have HXX := Lib.hid hxx; clear hc hw hxx hxm
   rcases Nat.eq_zero_or_pos k with hk0 | hk0
   ·subst hk0; simp only [Nat.add_zero] at hcr
    go_wp2_with fail
    refine (itoa_small x hx100 _).mono ?_; rintro e w1 ⟨rfl, rfl⟩
    go_wp2_with fail
    refine (HT.out.ws _ (num2 x) rfl (by have := HZ.out; have := HN2.out; omega)).mono ?_; rintro e w2 ⟨rfl, h2⟩; have HT2 : Hid (TS w b (mayP (xs.take 1)) [] w2) := Lib.hid (by rw [mayP_zero HXX.out, Int.toNat_natCast, HD.out]; exact h2); clear h2; go_wp2
    go_roundw
    case rel => exact ⟨1, by omega, by go_num, HT2⟩
    case measure => simp [intOf]; omega
   ·have hk0' : (0 : Int) < (k : Int) := by omega
    have HS : Hid (mayP (xs.take (k + 1)) = mayP (xs.take k) ++ 44 :: decT x) := Lib.hid (by
     obtain ⟨j, rfl⟩ : ∃ j, k = j + 1 := ⟨k - 1, by omega⟩
     exact mayP_succ HXX.out)
    clear hk0
    go_wp2_with fail
    refine (HT.out.wb 44 (by have := HZ.out; omega)).mono ?_; rintro e w1 ⟨rfl, h1⟩; have HT1 := Lib.hid h1; clear h1
    go_wp2_with fail
    refine (itoa_small x hx100 _).mono ?_; rintro e w1' ⟨rfl, rfl⟩
    go_wp2_with fail
    refine (HT1.out.ws _ (num2 x) rfl (by have := HZ.out; have := HN2.out; simp only [List.length_append, List.length_cons, List.length_nil]; omega)).mono ?_; rintro e w2 ⟨rfl, h2⟩; have HT2 : Hid (TS w b (mayP (xs.take (k + 1))) [] w2) := Lib.hid (by rw [HS.out, HD.out]; simpa using h2); clear h2; go_wp2
    go_roundw
    case rel => exact ⟨k + 1, by omega, by go_num, HT2⟩
    case measure => simp [intOf]; omega
  ·have hke : k = n := by omega
   have HE : Hid (mayT xs = mayP (xs.take k)) := Lib.hid (by rw [HM.out, hke, ← HL.out, List.take_length]); clear hke
   go_wp2_with fail
   refine HT.out.done.mono ?_; rintro e w2 ⟨rfl, hb2⟩; have HB := Lib.hid hb2; clear hb2; go_wp2; go_ret; exact ⟨ret_ba (by rw [HE.out]), HB.out⟩
end Go.Proofs.YtkmcengmglgdeaaGreatDoor


namespace Go.Proofs.YtkmcengmglgdeaaGreatDoor
set_option linter.unusedVariables false
set_option linter.unusedSimpArgs false
open Go.ChangeShapes Go.WideShapes Go.ChangeAt Go.RowKit

def Cond.val : Cond → Value
 | .one s => .iface 202 (.agg #[.int .i64 s])
 | .turn p => .iface 204 (.agg #[p.val])
 | .join s l h => .iface 208 (.agg #[.int .i64 s, l.val, h.val])
theorem Cond.val_form (c : Cond) : ∃ t d, c.val = .iface t d := by cases c <;> exact ⟨_, _, rfl⟩
theorem as_one_one (v : Value) (w : World) : (Instr.typeAssert (.iface 202 v) 185 202 true).run Tryz.prog w = .ok (.tuple #[v, .bool true]) w := by kernel_rfl
theorem as_turn_one (v : Value) (w : World) : (Instr.typeAssert (.iface 204 v) 185 202 true).run Tryz.prog w = .ok (.tuple #[.agg #[.int .i64 0], .bool false]) w := by kernel_rfl
theorem as_turn_turn (v : Value) (w : World) : (Instr.typeAssert (.iface 204 v) 185 204 true).run Tryz.prog w = .ok (.tuple #[v, .bool true]) w := by kernel_rfl
theorem as_turn_join (v : Value) (w : World) : (Instr.typeAssert (.iface 204 v) 185 208 true).run Tryz.prog w = .ok (.tuple #[.agg #[.int .i64 0, .nilIface, .nilIface], .bool false]) w := by kernel_rfl
theorem as_join_one (v : Value) (w : World) : (Instr.typeAssert (.iface 208 v) 185 202 true).run Tryz.prog w = .ok (.tuple #[.agg #[.int .i64 0], .bool false]) w := by kernel_rfl
theorem as_join_turn (v : Value) (w : World) : (Instr.typeAssert (.iface 208 v) 185 204 true).run Tryz.prog w = .ok (.tuple #[.agg #[.nilIface], .bool false]) w := by kernel_rfl
theorem as_join_join (v : Value) (w : World) : (Instr.typeAssert (.iface 208 v) 185 208 true).run Tryz.prog w = .ok (.tuple #[v, .bool true]) w := by kernel_rfl
set_option maxRecDepth 100000 in
theorem lastStep_any (c : Cond) (w : World) :
  Calls Tryz.prog 210 #[c.val] w fun e w' => e = .returned (.int .i64 c.last) ∧ Below w.heap.size w w' := by
 cases c with
 | one s =>
  simp only [Cond.val, Cond.last]; have a1 := as_one_one; go_enter Tryz.func210, Tryz.ntmps210; go_wp2; go_ret; exact ⟨rfl, (Below.refl _ _).alloc (Nat.le_refl _) _⟩
 | turn p =>
  simp only [Cond.val, Cond.last]; obtain ⟨pt, pd, hpv⟩ := p.val_form; rw [hpv]; clear hpv; have a1 := as_turn_one; have a2 := as_turn_join; go_enter Tryz.func210, Tryz.ntmps210; go_wp2; go_ret; exact ⟨rfl, Below.refl _ _⟩
 | join s l h =>
  simp only [Cond.val, Cond.last]; obtain ⟨lt, ld, hlv⟩ := l.val_form; obtain ⟨ht, hd, hhv⟩ := h.val_form; rw [hlv, hhv]; clear hlv hhv; have a1 := as_join_one; have a2 := as_join_join; go_enter Tryz.func210, Tryz.ntmps210; go_wp2; go_ret; exact ⟨rfl, (Below.refl _ _).alloc (Nat.le_refl _) _⟩
theorem sgn_toNat {s : Int} (h0 : 0 ≤ s) (h : s ≤ 4) : ((sgn s).toNat : Int) = 97 + s := by
 unfold sgn
 rw [if_neg (by omega), if_neg (by omega), UInt8.toNat_ofNat']
 omega
set_option maxRecDepth 100000 in
theorem singleText_any (s : Int) (h0 : 0 ≤ s) (h6 : s ≤ 6) (w : World) :
  Calls Tryz.prog 209 #[.int .i64 s] w fun e w' => e = .returned (.string ⟨[sgn s].toArray⟩) ∧ Below w.heap.size w w' := by
 by_cases h5 : s = 5
 ·subst h5; go_enter Tryz.func209, Tryz.ntmps209; go_wp2; go_ret; exact ⟨rfl, Below.refl _ _⟩
 by_cases hs6 : s = 6
 ·subst hs6; go_enter Tryz.func209, Tryz.ntmps209; go_wp2; go_ret; exact ⟨rfl, Below.refl _ _⟩
 have hd := sgn_toNat h0 (by omega)
 have hcv : (convert 22 9 (.slice (some ⟨w.heap.size, 0, none⟩) 1 1)).run Tryz.prog (w.alloc (.cells #[.int .u8 (97 + s)] 5)) = .ok (.string ⟨[sgn s].toArray⟩) (w.alloc (.cells #[.int .u8 (97 + s)] 5)) :=
  conv_one _ _ _ (by rw [hd]; exact (Blk.new w 5 #[.int .u8 (97 + s)]).cell 0)
 clear hd; go_enter Tryz.func209, Tryz.ntmps209; go_wp2; go_ret; exact ⟨rfl, (Below.refl _ _).alloc (Nat.le_refl _) _⟩
end Go.Proofs.YtkmcengmglgdeaaGreatDoor
