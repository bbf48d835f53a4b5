/- Several things of the list taken as one, and parted again; picks within a region that draws. -/
import Derived.Test.YtadlfffhddpajaaDoorSConc
import Derived.Test.YtadlfffhddpajaaDoorSDraw
namespace Go.Proofs.YtadlfffhddpajaaDoor
set_option linter.unusedVariables false
set_option linter.unusedSimpArgs false
open Go.ChangeShapes Go.WideShapes Go.ChangeAt Go.RowKit

section
variable {w W W' : World} {Rs L : List HRes} {M : Nat → Option HRes}
theorem St.pack (h : St w W (Rs ++ L)) : St w W (Rs ++ [rAll L]) := by
  obtain ⟨Fs, kl, ha, hn⟩ := h.has
  have hl : Fs.length = Rs.length + L.length := by rw [kl, List.length_append]
  have e : Fs = Fs.take Rs.length ++ Fs.drop Rs.length := (List.take_append_drop ..).symm
  have hn2 := hn
  rw [e, List.flatten_append] at hn2
  refine ⟨h.below, Fs.take Rs.length ++ [(Fs.drop Rs.length).flatten], by simp; omega, fun i R F hR hF => ?_, by rw [List.flatten_append]; simpa using hn2⟩
  rcases Nat.lt_or_ge i Rs.length with hi | hi
  · rw [List.getElem?_append_left hi] at hR
    rw [List.getElem?_append_left (by simp; omega), List.getElem?_take_of_lt hi] at hF
    exact ha i R F (by rw [List.getElem?_append_left hi]; exact hR) hF
  · rw [List.getElem?_append_right hi] at hR
    rw [List.getElem?_append_right (by simp; omega)] at hF
    have hi0 : i = Rs.length := by
      have := (List.getElem?_eq_some_iff.1 hR).1
      simp at this; omega
    subst hi0
    rw [Nat.sub_self] at hR
    rw [show Rs.length - (Fs.take Rs.length).length = 0 by simp; omega] at hF
    simp only [List.getElem?_cons_zero, Option.some.injEq] at hR hF
    subst hR hF
    have hat : ∀ (j : Nat) R G, L[j]? = some R → (Fs.drop Rs.length)[j]? = some G → R.at_ W G ∧ ∀ b ∈ G, w.heap.size ≤ b := fun j R G hR hG => by
      rw [List.getElem?_drop] at hG
      exact ha (Rs.length + j) R G (by rw [List.getElem?_append_right (by omega), Nat.add_sub_cancel_left]; exact hR) hG
    refine ⟨⟨Fs.drop Rs.length, by simp; omega, fun j R G hR hG => (hat j R G hR hG).1, (List.nodup_append.1 hn2).2.1, rfl⟩, fun b hb => ?_⟩
    obtain ⟨G, hG, hb⟩ := List.mem_flatten.1 hb
    obtain ⟨j, hj⟩ := List.mem_iff_getElem?.1 hG
    have hjl : j < L.length := by have := (List.getElem?_eq_some_iff.1 hj).1; simp at this; omega
    exact (hat j _ G (List.getElem?_eq_getElem hjl) hj).2 b hb
theorem St.unpack (h : St w W (Rs ++ [rAll L])) : St w W (Rs ++ L) := by
  obtain ⟨Fs, kl, ha, hn⟩ := h.has
  have hl : Fs.length = Rs.length + 1 := by simpa using kl
  have hF : Fs[Rs.length]? = some (Fs[Rs.length]'(by omega)) := List.getElem?_eq_getElem _
  generalize Fs[Rs.length]'(by omega) = F at hF
  obtain ⟨⟨Gs, g1, g2, g3, g4⟩, h2⟩ := ha Rs.length (rAll L) F (by simp) hF
  have e : Fs = Fs.take Rs.length ++ [F] := by
    have h1 := (List.take_append_drop Rs.length Fs).symm
    have h3 : Fs.drop Rs.length = [F] := by
      obtain ⟨hlt, he⟩ := List.getElem?_eq_some_iff.1 hF
      rw [List.drop_eq_getElem_cons hlt, he, List.drop_of_length_le (by omega)]
    rw [h3] at h1; exact h1
  refine ⟨h.below, Fs.take Rs.length ++ Gs, by simp; omega, fun i R G hR hG => ?_, ?_⟩
  · rcases Nat.lt_or_ge i Rs.length with hi | hi
    · rw [List.getElem?_append_left hi] at hR
      rw [List.getElem?_append_left (by simp; omega), List.getElem?_take_of_lt hi] at hG
      exact ha i R G (by rw [List.getElem?_append_left hi]; exact hR) hG
    · rw [List.getElem?_append_right hi] at hR
      rw [List.getElem?_append_right (by simp; omega), show (Fs.take Rs.length).length = Rs.length by simp; omega] at hG
      exact ⟨g2 _ R G hR hG, fun b hb => h2 b (by rw [g4]; exact mem_flat hG hb)⟩
  · rw [List.flatten_append]
    rw [e, List.flatten_append] at hn
    rw [show [F].flatten = F by simp, g4] at hn
    exact hn
theorem Sn.pick (h : Sn w W M) (k : Nat) {g hi : Nat} (hk : M k = some (rRd w g hi)) (hh : hi ≤ 549755813888) (m : Int) :
    Calls Tryd.prog 37 #[.pointer (some ⟨g, 0, none⟩), .int .i64 m] W fun e w' => ∃ x, e = .returned (.int .i64 x) ∧ InPick m x ∧ Sn w w' (fun i => if i = k then some (rRd w g (hi + 1)) else M i) := by
  obtain ⟨F, ⟨hF, p, A, n, c, xs, h1, h2, h3, h4⟩, hlo⟩ := h.get k hk
  have hg : w.heap.size ≤ g := hlo g (by rw [hF]; simp)
  have hR : Rdr W w.heap.size g p := ⟨hg, by omega, A, n, c, xs, h2, h3.below h.below, h4⟩
  refine (pick_any g w.heap.size p m W hR (by omega)).mono fun e w' ⟨⟨x, he, hx⟩, hgr, hr⟩ => ⟨x, he, hx, ?_⟩
  obtain ⟨-, -, A', n', c', ys, k1, k2, k3⟩ := hr
  have hb : Below w.heap.size W w' := (Below.refl _ _).grown hgr h.below.size (fun k hk => by cases hk; exact hg)
  have hrd : RdI .u8 w w.heap.size A' n' c' ys := ⟨k2.len, k2.cap, k2.capMax, k2.wf, fun hp => by
    obtain ⟨b, off, e, hbb, hc⟩ := k2.at_ hp
    exact ⟨b, off, e, hbb, fun i x hx => (bcells (h.below.trans hb) b _ hbb).symm.trans (hc i x hx)⟩⟩
  exact h.mod k hk fun F ⟨e, _⟩ _ => ⟨F, ⟨e, p + 1, A', n', c', ys, by omega, k1, hrd, k3⟩, fun b hb => .inl hb, by rw [e]; exact Only.of_grown hgr⟩
end
end Go.Proofs.YtadlfffhddpajaaDoor
