/- Joined texts: Pack, L20Act, L20Book. -/
import Derived.Test.YtfgebdioffeliaaSMayW
import Derived.Test.YtfgebdioffeliaaSFront
import Derived.Test.YtfgebdioffeliaaSTDraw
import Derived.Test.YtfgebdioffeliaaSPlanForW
import Derived.Test.YtfgebdioffeliaaSSplit
import Derived.Test.YtfgebdioffeliaaSFwd
/- Several things of the list taken as one, and parted again; picks within a region that draws. -/
namespace Go.Proofs.Ytfgebdioffeliaa
set_option linter.unusedVariables false
set_option linter.unusedSimpArgs false
open Go.ChangeShapes Go.WideShapes Go.ChangeAt Go.RowKit

section
variable {w W W' : World} {Rs L : List HRes} {M : Nat → Option HRes}
theorem St.pack (h : St w W (Rs ++ L)) : St w W (Rs ++ [rAll L]) := by
  obtain ⟨Fs, kl, ha, hn⟩ := h.has
  have hl : Fs.length = Rs.length + L.length := by rw [kl, List.length_append]
  have e : Fs = Fs.take Rs.length ++ Fs.drop Rs.length := (List.take_append_drop ..).symm
  have hn2 := hn
  rw [e, List.flatten_append] at hn2
  refine ⟨h.below, Fs.take Rs.length ++ [(Fs.drop Rs.length).flatten], by simp; omega, fun i R F hR hF => ?_, by rw [List.flatten_append]; simpa using hn2⟩
  rcases Nat.lt_or_ge i Rs.length with hi | hi
  · rw [List.getElem?_append_left hi] at hR
    rw [List.getElem?_append_left (by simp; omega), List.getElem?_take_of_lt hi] at hF
    exact ha i R F (by rw [List.getElem?_append_left hi]; exact hR) hF
  · rw [List.getElem?_append_right hi] at hR
    rw [List.getElem?_append_right (by simp; omega)] at hF
    have hi0 : i = Rs.length := by
      have := (List.getElem?_eq_some_iff.1 hR).1
      simp at this; omega
    subst hi0
    rw [Nat.sub_self] at hR
    rw [show Rs.length - (Fs.take Rs.length).length = 0 by simp; omega] at hF
    simp only [List.getElem?_cons_zero, Option.some.injEq] at hR hF
    subst hR hF
    have hat : ∀ (j : Nat) R G, L[j]? = some R → (Fs.drop Rs.length)[j]? = some G → R.at_ W G ∧ ∀ b ∈ G, w.heap.size ≤ b := fun j R G hR hG => by
      rw [List.getElem?_drop] at hG
      exact ha (Rs.length + j) R G (by rw [List.getElem?_append_right (by omega), Nat.add_sub_cancel_left]; exact hR) hG
    refine ⟨⟨Fs.drop Rs.length, by simp; omega, fun j R G hR hG => (hat j R G hR hG).1, (List.nodup_append.1 hn2).2.1, rfl⟩, fun b hb => ?_⟩
    obtain ⟨G, hG, hb⟩ := List.mem_flatten.1 hb
    obtain ⟨j, hj⟩ := List.mem_iff_getElem?.1 hG
    have hjl : j < L.length := by have := (List.getElem?_eq_some_iff.1 hj).1; simp at this; omega
    exact (hat j _ G (List.getElem?_eq_getElem hjl) hj).2 b hb
theorem St.unpack (h : St w W (Rs ++ [rAll L])) : St w W (Rs ++ L) := by
  obtain ⟨Fs, kl, ha, hn⟩ := h.has
  have hl : Fs.length = Rs.length + 1 := by simpa using kl
  have hF : Fs[Rs.length]? = some (Fs[Rs.length]'(by omega)) := List.getElem?_eq_getElem _
  generalize Fs[Rs.length]'(by omega) = F at hF
  obtain ⟨⟨Gs, g1, g2, g3, g4⟩, h2⟩ := ha Rs.length (rAll L) F (by simp) hF
  have e : Fs = Fs.take Rs.length ++ [F] := by
    have h1 := (List.take_append_drop Rs.length Fs).symm
    have h3 : Fs.drop Rs.length = [F] := by
      obtain ⟨hlt, he⟩ := List.getElem?_eq_some_iff.1 hF
      rw [List.drop_eq_getElem_cons hlt, he, List.drop_of_length_le (by omega)]
    rw [h3] at h1; exact h1
  refine ⟨h.below, Fs.take Rs.length ++ Gs, by simp; omega, fun i R G hR hG => ?_, ?_⟩
  · rcases Nat.lt_or_ge i Rs.length with hi | hi
    · rw [List.getElem?_append_left hi] at hR
      rw [List.getElem?_append_left (by simp; omega), List.getElem?_take_of_lt hi] at hG
      exact ha i R G (by rw [List.getElem?_append_left hi]; exact hR) hG
    · rw [List.getElem?_append_right hi] at hR
      rw [List.getElem?_append_right (by simp; omega), show (Fs.take Rs.length).length = Rs.length by simp; omega] at hG
      exact ⟨g2 _ R G hR hG, fun b hb => h2 b (by rw [g4]; exact mem_flat hG hb)⟩
  · rw [List.flatten_append]
    rw [e, List.flatten_append] at hn
    rw [show [F].flatten = F by simp, g4] at hn
    exact hn
end
end Go.Proofs.Ytfgebdioffeliaa

/- The draw of an act. Printed by gen_l20act.py. -/
namespace Go.Proofs.Ytfgebdioffeliaa
set_option linter.unusedVariables false
set_option linter.unusedSimpArgs false
open Go.ChangeShapes Go.WideShapes Go.ChangeAt Go.RowKit

def kd (x : Int) : Int := ([0, 0, 0, 0, 0, 1, 1, 2, 3] : List Int).getD x.toNat 0
def q60 (x : Int) : Int := if x < 59 then 0 else 1
end Go.Proofs.Ytfgebdioffeliaa

/- The draw of a book. Printed by gen_l20book.py. -/
namespace Go.Proofs.Ytfgebdioffeliaa
set_option linter.unusedVariables false
set_option linter.unusedSimpArgs false
open Go.ChangeShapes Go.WideShapes Go.ChangeAt Go.RowKit

/-- what a drawn book is, ahead of its spoiling -/
def BI (b : BookD) : Prop := bookOk b = true ∨ b = zeroB
theorem BI.do_ {b : BookD} (h : BI b) (a : ActD) : BI (bookDo b a) := by
  rcases h with h | h
  · exact .inl (bookDo_ok a h)
  · subst h
    cases hb : bookOk zeroB with
    | false => exact .inr (bookDo_bad hb).1
    | true => exact .inl (bookDo_ok a hb)
theorem BI.new (t : TaskD) : BI (bookNew t) := by
  cases h : taskOk t with
  | false => exact .inr (by unfold bookNew; rw [if_neg (by rw [h]; simp)]; rfl)
  | true =>
    refine .inl ?_
    rw [bookNew_yes t h]
    have hp := taskOk_parts t h
    have e : planRun t t.start [] = t.start := by unfold planRun; rw [if_pos ⟨h, (stIn_iff _).2 hp.1, by simp⟩]; simp only [runP, opt]; omega
    have := bookOk_mk (o := t) (d := []) (by rw [e]; exact hp.1.1)
    rwa [e] at this
theorem BI.bd {b : BookD} (h : BI b) : (0 ≤ b.state ∧ b.state < 32) ∧ b.done.length ≤ 40 ∧ (0 ≤ b.order.start ∧ b.order.start < 32) := by
  rcases h with h | h
  · obtain ⟨h1, h2, h3, h4⟩ := bookOk_parts h
    exact ⟨h3, h2, (taskOk_parts _ h1).1⟩
  · subst h; decide
end Go.Proofs.Ytfgebdioffeliaa
