/- Joined texts: Told, Gray, Rings, RTask, ShortS, DoS, L20Book. -/
import Derived.Test.YtdbgoekemffimaaSApp
import Derived.Test.YtdbgoekemffimaaSNum
import Derived.Test.YtdbgoekemffimaaSEq
import Derived.Test.YtdbgoekemffimaaSTDraw2
/- Codes put together of parts: l9All, l9None of the reference, noneHolds of the program. -/
namespace Go.Proofs.Ytdbgoekemffimaa
open Go.ChangeShapes Go.WideShapes Go.ChangeAt Go.RowKit

def codeAll : List (List Int) → List Int
  | [] => [5]
  | x :: r => r.foldl (fun a y => a ++ y ++ [8]) x
theorem codeAll_snoc (xss : List (List Int)) (h : xss ≠ []) (y : List Int) : codeAll (xss ++ [y]) = codeAll xss ++ y ++ [8] := by
  cases xss with
  | nil => exact absurd rfl h
  | cons x r => simp [codeAll, List.foldl_append]
theorem codeAll_take (xss : List (List Int)) (k : Nat) (h : 1 ≤ k) (y : List Int) (hy : xss[k]? = some y) : codeAll (xss.take (k + 1)) = codeAll (xss.take k) ++ y ++ [8] := by
  obtain ⟨h1, h2⟩ := List.getElem?_eq_some_iff.1 hy
  rw [List.take_succ_eq_append_getElem h1, h2]
  refine codeAll_snoc _ ?_ _
  intro e
  have := congrArg List.length e
  rw [List.length_take, List.length_nil] at this
  omega
def nonePart (k : Nat) : List Int := [(k : Int), 7]
def noneParts (m : Nat) : List (List Int) := (List.range m).map nonePart
def noneI : Nat → List Int
  | 0 => []
  | m + 1 => if m = 0 then [0, 7] else noneI m ++ [(m : Int), 7] ++ [8]
theorem l9All_any (A : Option Addr) (n c : Nat) (xss : List (List Int)) (w : World) (h : RdP w w.heap.size A n c xss) (hs : ∀ xs ∈ xss, xs.length ≤ 64) (hn : n ≤ 1024) :
    Calls Try.prog 87 #[.slice A n c] w fun e w' => (∃ v F, e = .returned v ∧ OwnI w' w.heap.size v (codeAll xss) F ∧ (codeAll xss).length ≤ 65 * n + 1) ∧ Below w.heap.size w w' := by
  have hl := h.len
  have hcp := h.cap
  have hcm := h.capMax
  unfold maxLen at hcm
  have HL := Lib.hid hl; clear hl
  by_cases h0 : n = 0
  · subst h0
    have hx : xss = [] := List.eq_nil_of_length_eq_zero HL.out
    subst hx
    have HO := Lib.hid (OwnI.lit w w.heap.size [5] (Nat.le_refl _) (by unfold maxLen; simp) (by simp; rfl))
    go_enter Try.func87, Try.ntmps87
    go_wp2
    go_ret
    exact ⟨⟨_, _, rfl, HO.out, by simp [codeAll]⟩, (Below.refl _ _).alloc (Nat.le_refl _) _⟩
  · have hz : ((n : Int) == 0) = false := by simp; omega
    obtain ⟨b, off, x0, A0, c0, rfl, hb, hx0, hc0, hr0⟩ := h.get (show 0 < n by omega)
    have hc0' : w.cell? ⟨b, off, none⟩ = some (.slice A0 x0.length c0) := by simpa using hc0
    have hr0' : RdI .i64 (w.alloc (.cells #[] 3)) w.heap.size A0 x0.length c0 x0 := hr0.below ((Below.refl _ _).alloc (Nat.le_refl _) _)
    have hsx := hs x0 (List.mem_of_getElem? hx0)
    have hol : (w.alloc (.cells #[] 3)).ownsRow w.heap.size 3 1 (.slice (some ⟨w.heap.size, 0, none⟩) 0 0) 0 [] := World.ownsRow_lit w #[] 0 (Nat.le_refl _) (by unfold maxLen; omega) rfl
    have HX0 : Hid (xss.take 1 = [x0]) := Lib.hid (by cases xss with
      | nil => simp at hx0
      | cons y r => simp at hx0; subst hx0; simp)
    clear hc0 hx0
    go_enter Try.func87, Try.ntmps87
    go_wp2_with (at_builtin; refine wp_app elInt rfl _ _ rfl w.heap.size _ 0 [] rfl hol w.heap.size A0 x0.length c0 (ints x0) rfl hr0'.row (ints_cell _) (by omega) (by omega) (by simp) ?_; intro v2 w2 hown2 hg2 hat2)
    have hb2 : Below w.heap.size w w2 := ((Below.refl _ _).alloc (Nat.le_refl _) (.cells #[] 3)).grown hg2 (by simp) (fun k hk => by have := (hol.lt k hk).1; omega)
    have ho2 : OwnI w2 w.heap.size v2 (codeAll (xss.take 1)) v2.ownBlock.toList := by
      rw [HX0.out]
      exact ⟨by simpa [codeAll] using hown2, hr0.wf, rfl⟩
    have hl2 : (codeAll (xss.take 1)).length ≤ 65 * 1 + 1 := by rw [HX0.out]; simp [codeAll]; omega
    have HO2 := Lib.hid ho2
    have HL2 := Lib.hid hl2
    have HB2 := Lib.hid hb2
    clear hown2 hg2 hat2 hol hr0' hr0 ho2 hl2 hb2
    go_wp2
    go_loopw [4, 3] (fun i v wr => ∃ (k : Nat) (F : List Nat), 1 ≤ k ∧ k ≤ n ∧ i = .int .i64 k ∧ OwnI wr w.heap.size v (codeAll (xss.take k)) F ∧ (codeAll (xss.take k)).length ≤ 65 * k + 1 ∧ Below w.heap.size w wr) (fun i _ _ => n - (intOf i).toNat)
    case atStart => exact ⟨1, _, by omega, by omega, rfl, HO2.out, HL2.out, HB2.out⟩
    case round =>
      obtain ⟨k, F, hk1, hk, rfl, ho, hlen, hbel⟩ := hrel
      by_cases hlt : k < n
      · obtain ⟨b', off', x, Ai, ci, e, hb', hx, hcx, hrx⟩ := h.get hlt
        simp only [Option.some.injEq, Addr.mk.injEq] at e
        obtain ⟨rfl, rfl, -⟩ := e
        have hcr : wr.cell? ⟨b, off + k, none⟩ = some (.slice Ai x.length ci) := (bcells hbel b _ hb').trans hcx
        have hrr := hrx.below hbel
        have hsx' := hs x (List.mem_of_getElem? hx)
        have HC := Lib.hid (codeAll_take xss k hk1 x hx)
        have hsz := hbel.size
        clear hcx hx
        go_wp2_with (first
          | (at_builtin; refine wp_app elInt rfl (.tmp 20) (.tmp 24) rfl w.heap.size _ _ _ rfl ho.row w.heap.size Ai x.length ci (ints x) rfl hrr.row (ints_cell _) (by omega) (by omega) (by omega) ?_; intro v3 w3 hown3 hg3 hat3)
          | (at_builtin; refine wp_app elInt rfl (.tmp 25) (.tmp 26) rfl w.heap.size v3 _ _ rfl (hown3.alloc _) _ _ 1 1 [.int .i64 8] rfl (RdRow.new w3 [.int .i64 8] 3 1 1 rfl (by unfold maxLen; omega)) (by simp [Value.oneCell']) (by omega) (by omega) (by have := hg3.size; simp; omega) ?_; intro v4 w4 hown4 hg4 hat4))
        have hs3 := hg3.size
        have hb3 : Below w.heap.size w w3 := hbel.grown hg3 hsz (fun j hj => by have := (ho.row.lt j hj).1; omega)
        have hb4 : Below w.heap.size w w4 := (hb3.alloc (by omega) _).grown hg4 (by simp; omega) (fun j hj => by have := (hown3.lt j hj).1; omega)
        have ho4 : OwnI w4 w.heap.size v4 (codeAll (xss.take (k + 1))) v4.ownBlock.toList := by
          rw [HC.out]
          refine ⟨?_, ?_, rfl⟩
          · simp only [List.length_append, List.length_cons, List.length_nil, ints_append] at hown4 ⊢
            exact hown4
          · intro z hz
            rcases List.mem_append.1 hz with hz | hz
            · rcases List.mem_append.1 hz with hz | hz
              · exact ho.wf z hz
              · exact hrx.wf z hz
            · simp at hz; subst hz; rfl
        go_wp2
        go_roundw
        case rel =>
          refine ⟨k + 1, _, by omega, by omega, by go_num, ho4, ?_, hb4⟩
          rw [HC.out]; simp; omega
        case measure => simp [intOf]; omega
      · have hkn : k = n := by omega
        subst hkn
        have HT : Hid (xss.take k = xss) := Lib.hid (by rw [← HL.out, List.take_length])
        go_wp2
        go_ret
        rw [HT.out] at ho hlen
        exact ⟨⟨_, _, rfl, ho, hlen⟩, hbel⟩

theorem elRow : ElemT Try.prog 86 23 (.slice none 0 0) 1 24 := ⟨Try.underlying86, info_parts (by kernel_rfl), rfl, by omega⟩
end Go.Proofs.Ytdbgoekemffimaa

/- GrayOf, GrayPlace and RingsMay, of the program and of the reference: each returns one plain function, for every argument. -/
namespace Go.Proofs.Ytdbgoekemffimaa
open Go.ChangeShapes Go.WideShapes Go.ChangeAt Go.RowKit

def grayOf (n : Int) : Int := if 0 ≤ n ∧ n < 32 then ((n.toNat ^^^ (n.toNat / 2) : Nat) : Int) else -1
/-- the place of a state: the states from it on, halved again and again, added where twice is nothing -/
def xorDown : Nat → Nat → Nat
  | 0, _ => 0
  | f + 1, s => s ^^^ xorDown f (s / 2)
def grayPlace (s : Int) : Int := if 0 ≤ s ∧ s < 32 then ((xorDown 5 s.toNat : Nat) : Int) else -1
/-- the value after k rounds of the program's loop -/
def half (m k : Nat) : Nat := m / 2 ^ k
end Go.Proofs.Ytdbgoekemffimaa

/- RingsMay of the program and of the reference: each returns one plain function, for every argument. -/
namespace Go.Proofs.Ytdbgoekemffimaa
open Go.ChangeShapes Go.WideShapes Go.ChangeAt Go.RowKit

def ringsIn (r s : Int) : Bool := decide (1 ≤ r ∧ r ≤ 5 ∧ 0 ≤ s ∧ s < 2 ^ r.toNat)
def ringsMay (r s k : Int) : Bool := ringsIn r s && decide (0 ≤ k ∧ k < r ∧ (k = 0 ∨ s % 2 ^ k.toNat = 2 ^ (k.toNat - 1)))

end Go.Proofs.Ytdbgoekemffimaa

/- RingsTask of the program and of the reference: each returns one plain task, for every argument. -/
namespace Go.Proofs.Ytdbgoekemffimaa
open Go.ChangeShapes Go.WideShapes Go.ChangeAt Go.RowKit

def needParts (k : Nat) : List (List Int) := if k = 0 then [] else [(k : Int) - 1] :: noneParts (k - 1)
def needI (k : Nat) : Nat → List Int
  | 0 => [(k : Int) - 1]
  | m + 1 => needI k m ++ [(m : Int), 7, 8]
def ringDeed (k : Nat) : DeedD := ⟨codeAll (needParts k), 0, 0, 2 ^ k⟩
def ringDeeds (m : Nat) : List DeedD := (List.range m).map ringDeed
def ringsTask (r s : Int) : TaskD := if ringsIn r s = true then ⟨s, codeAll (noneParts r.toNat), ringDeeds r.toNat⟩ else ⟨0, [], []⟩

def partsJ (k j : Nat) : List (List Int) := (if k = 0 then [] else [[(k : Int) - 1]]) ++ noneParts j
end Go.Proofs.Ytdbgoekemffimaa

/- PlanShort of the reference. Printed by gen_shorts.py out of XShortS.src. -/
namespace Go.Proofs.Ytdbgoekemffimaa
set_option linter.unusedVariables false
set_option linter.unusedSimpArgs false
open Go.ChangeShapes Go.WideShapes Go.ChangeAt Go.RowKit

end Go.Proofs.Ytdbgoekemffimaa

/- l10Copy and BookDo of the reference. Printed by gen_dos.py out of XDoS.src. -/
namespace Go.Proofs.Ytdbgoekemffimaa
set_option linter.unusedVariables false
set_option linter.unusedSimpArgs false
open Go.ChangeShapes Go.WideShapes Go.ChangeAt Go.RowKit

theorem bookNew_yes (t : TaskD) (h : taskOk t = true) : bookNew t = ⟨t, [], t.start⟩ := by unfold bookNew; rw [if_pos h]
end Go.Proofs.Ytdbgoekemffimaa

/- The draw of a book. Printed by gen_l20book.py. -/
namespace Go.Proofs.Ytdbgoekemffimaa
set_option linter.unusedVariables false
set_option linter.unusedSimpArgs false
open Go.ChangeShapes Go.WideShapes Go.ChangeAt Go.RowKit

/-- what a drawn book is, ahead of its spoiling -/
def BI (b : BookD) : Prop := bookOk b = true ∨ b = zeroB
theorem BI.do_ {b : BookD} (h : BI b) (a : ActD) : BI (bookDo b a) := by
  rcases h with h | h
  · exact .inl (bookDo_ok a h)
  · subst h
    cases hb : bookOk zeroB with
    | false => exact .inr (bookDo_bad hb).1
    | true => exact .inl (bookDo_ok a hb)
theorem BI.new (t : TaskD) : BI (bookNew t) := by
  cases h : taskOk t with
  | false => exact .inr (by unfold bookNew; rw [if_neg (by rw [h]; simp)]; rfl)
  | true =>
    refine .inl ?_
    rw [bookNew_yes t h]
    have hp := taskOk_parts t h
    have e : planRun t t.start [] = t.start := by unfold planRun; rw [if_pos ⟨h, (stIn_iff _).2 hp.1, by simp⟩]; simp only [runP, opt]; omega
    have := bookOk_mk (o := t) (d := []) (by rw [e]; exact hp.1.1)
    rwa [e] at this
theorem BI.bd {b : BookD} (h : BI b) : (0 ≤ b.state ∧ b.state < 32) ∧ b.done.length ≤ 40 ∧ (0 ≤ b.order.start ∧ b.order.start < 32) := by
  rcases h with h | h
  · obtain ⟨h1, h2, h3, h4⟩ := bookOk_parts h
    exact ⟨h3, h2, (taskOk_parts _ h1).1⟩
  · subst h; decide
end Go.Proofs.Ytdbgoekemffimaa
