/- Joined texts: Conc, DoI, DoI2, Pack. -/
import Derived.Test.YtdbgoekemffimaaSShortI
import Derived.Test.YtdbgoekemffimaaSPerm
import Derived.Lib.AppendZeros
import Derived.Test.YtdbgoekemffimaaSActs
import Derived.Test.YtdbgoekemffimaaSBookNew
import Derived.Test.YtdbgoekemffimaaSIntS
/- slices.Contains, slices.Concat of two rows of numbers (and slices.Grow of nil under it). -/
namespace Go.Proofs.Ytdbgoekemffimaa
set_option linter.unusedVariables false
set_option linter.unusedSimpArgs false
open Go.ChangeShapes Go.WideShapes Go.ChangeAt Go.RowKit

theorem wp_grow {P : Program} {t tn : TypeId} {w w2 : World} {ops : Array Oper} {rest : List Oper} {o : Oper} {a : Act} {Q : Exit → Act → World → Prop} (hgd : o.guard = none) (s x : Operand)
    (ho : o.op = .call { callee := .builtin .append, args := #[s, x], argTypes := #[t, tn] }) (va vb r : Value) (hs : a.eval s = va) (hx : a.eval x = vb) (hr : ∀ ty, (Builtin.append_ #[t, tn] ty #[va, vb]).run P w = .ok r w2)
    (h : wpList P ops Q rest (a.put o.dst r) w2) : wpList P ops Q (o :: rest) a w := by
  refine wpList_plain hgd fun K hK => ?_
  unfold Oper.wp execOp
  simp only [ho, resolve, invoke, builtin, Sem.run_bind, Sem.run_pure, Result.andThen_ok, List.map_toArray, List.map_cons, List.map_nil, hs, hx, hr]
  exact hK _ _ h
end Go.Proofs.Ytdbgoekemffimaa

/- bookCopy, doneAfter and BookDo of the program. Printed by gen_do.py out of XDoI.src. -/
namespace Go.Proofs.Ytdbgoekemffimaa
set_option linter.unusedVariables false
set_option linter.unusedSimpArgs false
open Go.ChangeShapes Go.WideShapes Go.ChangeAt Go.RowKit

/-- what doneAfter gives -/
def GivesD (o : Option (List Int)) (w : World) (e : Ending) (w' : World) : Prop := ∃ v ds, e = .returned (.tuple #[v, .bool o.isSome]) ∧ (∀ d, o = some d → ds = d) ∧ St w w' [rInts v ds]
theorem GivesD.no {o : Option (List Int)} {w w' : World} (ho : o = none) (h : Below w.heap.size w w') : GivesD o w (.returned (.tuple #[.slice none 0 0, .bool false])) w' :=
  ⟨_, [], by rw [ho]; rfl, (fun d hd => by rw [ho] at hd; cases hd), rInts_nil _ _ h⟩
theorem GivesD.no' {o : Option (List Int)} {w w' : World} {v : Value} {ds : List Int} (ho : o = none) (h : St w w' [rInts v ds]) : GivesD o w (.returned (.tuple #[v, .bool false])) w' :=
  ⟨_, ds, by rw [ho]; rfl, (fun d hd => by rw [ho] at hd; cases hd), h⟩
theorem GivesD.yes {o : Option (List Int)} {w w' : World} {v : Value} {ds : List Int} (ho : o = some ds) (h : St w w' [rInts v ds]) : GivesD o w (.returned (.tuple #[v, .bool true])) w' :=
  ⟨_, ds, by rw [ho]; rfl, (fun d hd => by rw [ho] at hd; injection hd), h⟩
theorem wf_nonneg {x : Int} (h0 : 0 ≤ x) (h1 : x ≤ 1000000) : (Lit.int .i64 x).wf = true := wf_i64_mk (by omega)
theorem done0 {b : BookD} {m : Int} : doneAfter b ⟨0, m⟩ = if b.done.length < 40 ∧ m ∈ deedsMay b.order b.state then some (b.done ++ [m]) else none := by unfold doneAfter; rw [if_pos rfl]
theorem done1 {b : BookD} {m : Int} : doneAfter b ⟨1, m⟩ = if 1 ≤ m ∧ m ≤ b.done.length then some (b.done.take (b.done.length - m.toNat)) else none := by unfold doneAfter; rw [if_neg (by simp), if_pos rfl]
theorem done2 {b : BookD} {m : Int} : doneAfter b ⟨2, m⟩ = if m = 0 ∧ ((planShort b.order b.done).getD []).length < b.done.length then some ((planShort b.order b.done).getD []) else none := by unfold doneAfter; rw [if_neg (by simp), if_neg (by simp), if_pos rfl]
theorem done3 {b : BookD} {m : Int} : doneAfter b ⟨3, m⟩ = if m = 0 ∧ 0 < ((restFor b).getD []).length ∧ b.done.length + ((restFor b).getD []).length ≤ 40 then some (b.done ++ (restFor b).getD []) else none := by unfold doneAfter; rw [if_neg (by simp), if_neg (by simp), if_neg (by simp), if_pos rfl]
theorem done4 {b : BookD} {k m : Int} (h0 : k ≠ 0) (h1 : k ≠ 1) (h2 : k ≠ 2) (h3 : k ≠ 3) : doneAfter b ⟨k, m⟩ = none := by unfold doneAfter; rw [if_neg h0, if_neg h1, if_neg h2, if_neg h3]
end Go.Proofs.Ytdbgoekemffimaa

/- BookDo of the program. -/
namespace Go.Proofs.Ytdbgoekemffimaa
set_option linter.unusedVariables false
set_option linter.unusedSimpArgs false
open Go.ChangeShapes Go.WideShapes Go.ChangeAt Go.RowKit

section
variable {w W W' : World} {L : List HRes}
/-- the first thing parted in two -/
theorem St.split {R R₁ R₂ : HRes} (h : St w W (R :: L)) (k : ∀ F, R.at_ W F → ∃ F1 F2, F = F1 ++ F2 ∧ R₁.at_ W F1 ∧ R₂.at_ W F2) : St w W (R₁ :: R₂ :: L) := by
  obtain ⟨Fs, kl, ha, hnd⟩ := h.has
  match Fs, kl, ha, hnd with
  | F :: Fs, kl, ha, hnd =>
    obtain ⟨a1, a2⟩ := ha 0 _ F rfl rfl
    obtain ⟨F1, F2, rfl, b1, b2⟩ := k F a1
    refine ⟨h.below, F1 :: F2 :: Fs, by simpa using kl, fun i R' F' hR hF => ?_, by simpa using hnd⟩
    match i with
    | 0 =>
      injection hR with hR; injection hF with hF; subst hR hF
      exact ⟨b1, fun x hx => a2 x (List.mem_append_left _ hx)⟩
    | 1 =>
      simp only [List.getElem?_cons_succ, List.getElem?_cons_zero, Option.some.injEq] at hR hF
      subst hR hF
      exact ⟨b2, fun x hx => a2 x (List.mem_append_right _ hx)⟩
    | i + 2 => exact ha (i + 1) R' F' (by simpa using hR) (by simpa using hF)
theorem St.unbook {s st : Int} {gv dv ev : Value} {b : BookD} (h : St w W (rBook (.agg #[.int .i64 s, gv, dv, ev, .int .i64 st]) b :: L)) : St w W (rTask (.agg #[.int .i64 s, gv, dv]) b.order :: rInts ev b.done :: L) :=
  h.split fun F ⟨gv', dv', ev', Ft, Fd, e, h1, h2, h3, h4, h5, h6⟩ => by
    simp only [Value.agg.injEq, Array.mk.injEq, List.cons.injEq, and_true, Value.int.injEq, true_and] at e
    obtain ⟨rfl, rfl, rfl, rfl, -⟩ := e
    refine ⟨Ft, Fd, h5, ⟨h1, ?_⟩, h2⟩
    rw [h5] at h6
    exact (List.nodup_append.1 h6).1
theorem St.book' {o : TaskD} {s st : Int} {gv dv ev : Value} {done : List Int} (hs : o.start = s) (h : St w W (rTask (.agg #[.int .i64 s, gv, dv]) o :: rInts ev done :: L)) (hd : done.length ≤ 1048576) (hst : (Lit.int .i64 st).wf = true) :
    St w W (rBook (.agg #[.int .i64 s, gv, dv, ev, .int .i64 st]) ⟨o, done, st⟩ :: L) := by
  obtain ⟨os, og, od⟩ := o
  simp only at hs
  subst hs
  exact h.book hd hst
end
theorem zeroB_eq : zeroB = ⟨⟨0, [], []⟩, [], 0⟩ := rfl
end Go.Proofs.Ytdbgoekemffimaa

/- Several things of the list taken as one, and parted again; picks within a region that draws. -/
namespace Go.Proofs.Ytdbgoekemffimaa
set_option linter.unusedVariables false
set_option linter.unusedSimpArgs false
open Go.ChangeShapes Go.WideShapes Go.ChangeAt Go.RowKit

section
variable {w W W' : World} {Rs L : List HRes} {M : Nat → Option HRes}
theorem St.pack (h : St w W (Rs ++ L)) : St w W (Rs ++ [rAll L]) := by
  obtain ⟨Fs, kl, ha, hn⟩ := h.has
  have hl : Fs.length = Rs.length + L.length := by rw [kl, List.length_append]
  have e : Fs = Fs.take Rs.length ++ Fs.drop Rs.length := (List.take_append_drop ..).symm
  have hn2 := hn
  rw [e, List.flatten_append] at hn2
  refine ⟨h.below, Fs.take Rs.length ++ [(Fs.drop Rs.length).flatten], by simp; omega, fun i R F hR hF => ?_, by rw [List.flatten_append]; simpa using hn2⟩
  rcases Nat.lt_or_ge i Rs.length with hi | hi
  · rw [List.getElem?_append_left hi] at hR
    rw [List.getElem?_append_left (by simp; omega), List.getElem?_take_of_lt hi] at hF
    exact ha i R F (by rw [List.getElem?_append_left hi]; exact hR) hF
  · rw [List.getElem?_append_right hi] at hR
    rw [List.getElem?_append_right (by simp; omega)] at hF
    have hi0 : i = Rs.length := by
      have := (List.getElem?_eq_some_iff.1 hR).1
      simp at this; omega
    subst hi0
    rw [Nat.sub_self] at hR
    rw [show Rs.length - (Fs.take Rs.length).length = 0 by simp; omega] at hF
    simp only [List.getElem?_cons_zero, Option.some.injEq] at hR hF
    subst hR hF
    have hat : ∀ (j : Nat) R G, L[j]? = some R → (Fs.drop Rs.length)[j]? = some G → R.at_ W G ∧ ∀ b ∈ G, w.heap.size ≤ b := fun j R G hR hG => by
      rw [List.getElem?_drop] at hG
      exact ha (Rs.length + j) R G (by rw [List.getElem?_append_right (by omega), Nat.add_sub_cancel_left]; exact hR) hG
    refine ⟨⟨Fs.drop Rs.length, by simp; omega, fun j R G hR hG => (hat j R G hR hG).1, (List.nodup_append.1 hn2).2.1, rfl⟩, fun b hb => ?_⟩
    obtain ⟨G, hG, hb⟩ := List.mem_flatten.1 hb
    obtain ⟨j, hj⟩ := List.mem_iff_getElem?.1 hG
    have hjl : j < L.length := by have := (List.getElem?_eq_some_iff.1 hj).1; simp at this; omega
    exact (hat j _ G (List.getElem?_eq_getElem hjl) hj).2 b hb
theorem St.unpack (h : St w W (Rs ++ [rAll L])) : St w W (Rs ++ L) := by
  obtain ⟨Fs, kl, ha, hn⟩ := h.has
  have hl : Fs.length = Rs.length + 1 := by simpa using kl
  have hF : Fs[Rs.length]? = some (Fs[Rs.length]'(by omega)) := List.getElem?_eq_getElem _
  generalize Fs[Rs.length]'(by omega) = F at hF
  obtain ⟨⟨Gs, g1, g2, g3, g4⟩, h2⟩ := ha Rs.length (rAll L) F (by simp) hF
  have e : Fs = Fs.take Rs.length ++ [F] := by
    have h1 := (List.take_append_drop Rs.length Fs).symm
    have h3 : Fs.drop Rs.length = [F] := by
      obtain ⟨hlt, he⟩ := List.getElem?_eq_some_iff.1 hF
      rw [List.drop_eq_getElem_cons hlt, he, List.drop_of_length_le (by omega)]
    rw [h3] at h1; exact h1
  refine ⟨h.below, Fs.take Rs.length ++ Gs, by simp; omega, fun i R G hR hG => ?_, ?_⟩
  · rcases Nat.lt_or_ge i Rs.length with hi | hi
    · rw [List.getElem?_append_left hi] at hR
      rw [List.getElem?_append_left (by simp; omega), List.getElem?_take_of_lt hi] at hG
      exact ha i R G (by rw [List.getElem?_append_left hi]; exact hR) hG
    · rw [List.getElem?_append_right hi] at hR
      rw [List.getElem?_append_right (by simp; omega), show (Fs.take Rs.length).length = Rs.length by simp; omega] at hG
      exact ⟨g2 _ R G hR hG, fun b hb => h2 b (by rw [g4]; exact mem_flat hG hb)⟩
  · rw [List.flatten_append]
    rw [e, List.flatten_append] at hn
    rw [show [F].flatten = F by simp, g4] at hn
    exact hn
theorem Sn.pick (h : Sn w W M) (k : Nat) {g hi : Nat} (hk : M k = some (rRd w g hi)) (hh : hi ≤ 549755813888) (m : Int) :
    Calls Try.prog 101 #[.pointer (some ⟨g, 0, none⟩), .int .i64 m] W fun e w' => ∃ x, e = .returned (.int .i64 x) ∧ InPick m x ∧ Sn w w' (fun i => if i = k then some (rRd w g (hi + 1)) else M i) := by
  obtain ⟨F, ⟨hF, p, A, n, c, xs, h1, h2, h3, h4⟩, hlo⟩ := h.get k hk
  have hg : w.heap.size ≤ g := hlo g (by rw [hF]; simp)
  have hR : Rdr W w.heap.size g p := ⟨hg, by omega, A, n, c, xs, h2, h3.below h.below, h4⟩
  refine (pick_any g w.heap.size p m W hR (by omega)).mono fun e w' ⟨⟨x, he, hx⟩, hgr, hr⟩ => ⟨x, he, hx, ?_⟩
  obtain ⟨-, -, A', n', c', ys, k1, k2, k3⟩ := hr
  have hb : Below w.heap.size W w' := (Below.refl _ _).grown hgr h.below.size (fun k hk => by cases hk; exact hg)
  have hrd : RdI .u8 w w.heap.size A' n' c' ys := ⟨k2.len, k2.cap, k2.capMax, k2.wf, fun hp => by
    obtain ⟨b, off, e, hbb, hc⟩ := k2.at_ hp
    exact ⟨b, off, e, hbb, fun i x hx => (bcells (h.below.trans hb) b _ hbb).symm.trans (hc i x hx)⟩⟩
  exact h.mod k hk fun F ⟨e, _⟩ _ => ⟨F, ⟨e, p + 1, A', n', c', ys, by omega, k1, hrd, k3⟩, fun b hb => .inl hb, by rw [e]; exact Only.of_grown hgr⟩
end
end Go.Proofs.Ytdbgoekemffimaa
