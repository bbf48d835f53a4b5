/- Graphs as arguments: read, own, copied, compared, marked, measured. -/
import Derived.Test.YtpcaagbmjhgnaaaIntS
import Derived.Test.YtpcaagbmjhgnaaaCame
namespace Go.Proofs.Ytpcaagbmjhgnaaa
set_option linter.unusedVariables false
open Go.ChangeShapes Go.WideShapes Go.ChangeAt Go.RowKit

def RdGM (M : Nat) (w : World) (B : Nat) (v : Value) (xs : List Int) : Prop := ∃ A n c, v = .agg #[.slice A n c] ∧ RdI .i64 w B A n c xs ∧ n ≤ M
abbrev RdG (w : World) (B : Nat) (v : Value) (xs : List Int) : Prop := RdGM 1048576 w B v xs
def rGraph (v : Value) (xs : List Int) : HRes where
  at_ w F := (∃ gv, v = .agg #[gv] ∧ OwnI w 0 gv xs F) ∧ xs.length ≤ 1048576
  keep w w' F h hk := by obtain ⟨⟨gv, e, h1⟩, h2⟩ := h; exact ⟨⟨gv, e, h1.keep hk⟩, h2⟩
  lt w F h b hb := by obtain ⟨⟨gv, e, h1⟩, h2⟩ := h; exact (h1.lt b hb).2
  nd w F h := by obtain ⟨⟨gv, e, h1⟩, h2⟩ := h; exact h1.nodup
def szG (xs : List Int) : Nat := xs.length
def mkG (xs : List Int) : Nat := xs.length
def markG (k : Nat) (xs : List Int) : List Int := marks k xs.length
theorem mkG_le (xs : List Int) : mkG xs ≤ 4 * szG xs := by unfold mkG szG; omega
theorem rdG_of {w : World} {B : Nat} {v : Value} {xs : List Int} (h : ∃ A n c, v = .agg #[.slice A n c] ∧ RdI .i64 w B A n c xs) : RdGM maxLen w B v xs := by
  obtain ⟨A, n, c, e, h⟩ := h
  exact ⟨A, n, c, e, h, Nat.le_trans h.cap h.capMax⟩
section
variable {w W W' : World} {L : List HRes} {M B : Nat} {v : Value} {xs : List Int}
theorem RdGM.form (h : RdGM M w B v xs) : ∃ A n c, v = .agg #[.slice A n c] := by obtain ⟨A, n, c, e, -⟩ := h; exact ⟨A, n, c, e⟩
theorem RdGM.ints {A : Option Addr} {n c : Nat} (h : RdGM M w B (.agg #[.slice A n c]) xs) : RdI .i64 w B A n c xs ∧ n ≤ M := by
  obtain ⟨A', n', c', e, h1, h2⟩ := h
  simp only [Value.agg.injEq, Array.mk.injEq, List.cons.injEq, Value.slice.injEq, and_true] at e
  obtain ⟨rfl, rfl, rfl⟩ := e
  exact ⟨h1, h2⟩
theorem RdGM.up (h : RdGM M w w.heap.size v xs) (hb : Below w.heap.size w W) : RdGM M W W.heap.size v xs := by
  obtain ⟨A, n, c, e, h1, h2⟩ := h; exact ⟨A, n, c, e, h1.up hb, h2⟩
theorem RdGM.less {M' : Nat} (h : RdGM M w B v xs) (hs : szG xs ≤ M') : RdGM M' w B v xs := by
  obtain ⟨A, n, c, e, h1, h2⟩ := h
  have := h1.len
  unfold szG at hs
  exact ⟨A, n, c, e, h1, by omega⟩
theorem rGraph_rd {F : List Nat} (h : (rGraph v xs).at_ W F) : RdG W W.heap.size v xs := by
  obtain ⟨⟨gv, e, h1⟩, h2⟩ := h
  obtain ⟨A, c, hv, hr⟩ := h1.rd
  exact ⟨A, _, c, by rw [e, hv], hr, h2⟩
theorem St.rdG (S : St w W L) (i : Nat) (hi : L[i]? = some (rGraph v xs)) : RdG W W.heap.size v xs := by
  obtain ⟨F, h, -⟩ := S.get i hi; exact rGraph_rd h
theorem Sn.rdG {M : Nat → Option HRes} (h : Sn w W M) (k : Nat) (hk : M k = some (rGraph v xs)) : RdG W W.heap.size v xs := by
  obtain ⟨F, h1, -⟩ := h.get k hk; exact rGraph_rd h1
theorem St.formG (S : St w W L) (i : Nat) (hi : L[i]? = some (rGraph v xs)) : ∃ A n c, v = .agg #[.slice A n c] := (S.rdG i hi).form
theorem St.graph {gv : Value} (h : St w W (rInts gv xs :: L)) (hl : xs.length ≤ 1048576) : St w W (rGraph (.agg #[gv]) xs :: L) := h.see fun F h1 _ => ⟨⟨gv, rfl, h1⟩, hl⟩
end
theorem szGraph_any {M : Nat} (hM : M ≤ 9223372036854775807) (v : Value) (xs : List Int) (left : Int) (w : World) (h : RdGM M w w.heap.size v xs) (h0 : 0 ≤ left) (h1 : left ≤ 1048576) :
    Calls Try.prog 15 #[v, .int .i64 left] w fun e w' => e = .returned (.int .i64 (less left (szG xs))) ∧ Below w.heap.size w w' := by
  obtain ⟨A, n, c, rfl, hr, hn⟩ := h
  have HSZ : Hid (szG xs = n) := Lib.hid hr.len
  have S0 := (St.refl w).alloc #[.slice A n c] 24
  have HS0 := Lib.hid S0
  clear S0
  by_cases hz : (n : Int) ≤ left
  · go_enter Try.func15, Try.ntmps15
    go_wp2_with fail
    refine (szIntS_any A n c left _ (by omega) h0 h1).mono ?_
    rw [less_yes hz]
    rintro e w1 ⟨rfl, rfl⟩
    go_wp2
    go_ret
    exact ⟨ret_int (by rw [HSZ.out, less_yes hz]), HS0.out.below⟩
  · go_enter Try.func15, Try.ntmps15
    go_wp2_with fail
    refine (szIntS_any A n c left _ (by omega) h0 h1).mono ?_
    rw [less_no (by omega)]
    rintro e w1 ⟨rfl, rfl⟩
    go_wp2
    go_ret
    exact ⟨ret_int (by rw [HSZ.out, less_no (by omega)]), HS0.out.below⟩
set_option maxRecDepth 100000 in
theorem toGraph_st (v : Value) (xs : List Int) (w : World) (h : RdG w w.heap.size v xs) : Calls Try.prog 17 #[v] w (Gives w id fun v' => [rGraph v' xs]) := by
  obtain ⟨A, n, c, rfl, hr, hn⟩ := h
  have HL := Lib.hid hr.len
  have S0 : St w (((w.alloc (Obj.cells #[.slice A n c] 24)).alloc (Obj.cells #[.slice none 0 0] 30)).alloc (Obj.cells #[.slice none 0 0] 30)) [rBlk w.heap.size 24 #[.slice A n c], rBlk (w.heap.size + 1) 30 #[.slice none 0 0], rBlk (w.heap.size + 2) 30 #[.slice none 0 0]] := by
    have := (((St.refl w).alloc #[.slice A n c] 24).alloc #[.slice none 0 0] 30).alloc #[.slice none 0 0] 30
    simpa using this
  have HS0 := Lib.hid S0
  have H := Lib.hid (hr.up S0.below)
  clear S0 hr
  go_enter Try.func17, Try.ntmps17
  go_wp2_with fail
  refine (toIntS_st A n c xs _ H.out hn).mono ?_
  rintro e w1 ⟨v1, rfl, s1⟩
  obtain ⟨A1, c1, hv, -⟩ := s1.rdI 0 rfl
  subst hv
  have S1 := HS0.out.call s1
  have q1 : ∀ j, w1.cell? ⟨w.heap.size + 1, j, none⟩ = _ := S1.cells 1 rfl
  have q2 : ∀ j, w1.cell? ⟨w.heap.size + 2, j, none⟩ = _ := S1.cells 2 rfl
  have f1 := S1.free 1 rfl
  have f2 := S1.free 2 rfl
  have S2 := (S1.set 2 rfl 0 (.slice A1 xs.length c1)).set 1 rfl 0 (.slice A1 xs.length c1)
  have HS2 : Hid (St w ((w1.setCell ⟨w.heap.size + 2, 0, none⟩ (.slice A1 xs.length c1)).setCell ⟨w.heap.size + 1, 0, none⟩ (.slice A1 xs.length c1)) [rGraph (.agg #[.slice A1 xs.length c1]) xs]) := Lib.hid ((S2.pick [3] (by decide) rfl rfl).graph (by rw [HL.out]; exact hn))
  clear S1 S2 s1
  go_wp2
  refine bodyPost_ret (v := .agg #[.slice A1 xs.length c1]) (by simp [results, Try.results17, go_sem, q1, q2]) rfl ⟨.agg #[.slice A1 xs.length c1], rfl, ?_⟩
  exact HS2.out
theorem eqGraph_same (v : Value) (xs : List Int) (v' : Value) (w : World) (h : RdG w w.heap.size v xs) (h' : RdG w w.heap.size v' xs) :
    Calls Try.prog 20 #[v, v'] w fun e w' => e = .returned (.bool true) ∧ Below w.heap.size w w' := by
  obtain ⟨A, n, c, rfl, hr, hn⟩ := h
  obtain ⟨A', n', c', rfl, hr', hn'⟩ := h'
  have S0 : St w ((w.alloc (Obj.cells #[.slice A n c] 30)).alloc (Obj.cells #[.slice A' n' c'] 30)) [rBlk w.heap.size 30 #[.slice A n c], rBlk (w.heap.size + 1) 30 #[.slice A' n' c']] := by
    have := ((St.refl w).alloc #[.slice A n c] 30).alloc #[.slice A' n' c'] 30
    simpa using this
  have HC := Lib.hid (eqIntS_same A n c xs A' n' c' _ (hr.up S0.below) (hr'.up S0.below))
  have HS0 := Lib.hid S0
  clear S0 hr hr'
  go_enter Try.func20, Try.ntmps20
  go_wp2_with fail
  refine HC.out.mono ?_
  rintro e w1 ⟨rfl, hb⟩
  have HB := Lib.hid hb
  clear hb
  go_wp2
  go_ret
  exact ⟨rfl, (HS0.out.quiet HB.out).below⟩
theorem markGraph_st {w W : World} {L : List HRes} (S : St w W L) (i : Nat) {v : Value} {xs : List Int} (hi : L[i]? = some (rGraph v xs)) (k : Nat) (hk : k + mkG xs ≤ 1099511627776) :
    Calls Try.prog 21 #[v, .int .i64 k] W (fun e W' => e = .returned (.int .i64 (k + mkG xs : Nat)) ∧ St w W' (L.set i (rGraph v (markG k xs)))) := by
  obtain ⟨F, ⟨⟨gv, rfl, h1⟩, hl⟩, -⟩ := S.get i hi
  obtain ⟨A, c, rfl, -⟩ := h1.rd
  unfold mkG at hk
  have hb0 : ∀ g, g < W.heap.size → (W.alloc (Obj.cells #[.slice A xs.length c] 30)).heap[g]? = W.heap[g]? := fun g hg => by
    exact ((Below.refl W.heap.size W).alloc (Nat.le_refl _) _).block g hg
  have h2 : OwnI (W.alloc (Obj.cells #[.slice A xs.length c] 30)) 0 (.slice A xs.length c) xs F := h1.keep fun b hb => hb0 b (h1.lt b hb).2
  have HM := Lib.hid (markIntS_any 0 (.slice A xs.length c) xs F k _ h2 (by omega) hl)
  have HS := Lib.hid S
  have H1 := Lib.hid h1
  clear S h2 h1 hb0
  go_enter Try.func21, Try.ntmps21
  go_wp2_with fail
  refine HM.out.mono ?_
  rintro e w1 ⟨rfl, ho, hon⟩
  have HO := Lib.hid ho
  have HON := Lib.hid hon
  clear ho hon
  go_wp2
  go_ret
  refine ⟨rfl, ?_⟩
  exact HS.out.mod i hi fun F' g1 glo => by
    obtain ⟨⟨gv', e', g2⟩, g3⟩ := g1
    simp only [Value.agg.injEq, Array.mk.injEq, List.cons.injEq, and_true] at e'
    subst e'
    have : F' = F := by rw [g2.foot, H1.out.foot]
    subst this
    exact ⟨F', ⟨⟨_, rfl, HO.out⟩, by unfold markG; simpa [marks] using hl⟩, fun b hb => .inl hb, ((Only.refl F' W).alloc _).trans HON.out⟩
end Go.Proofs.Ytpcaagbmjhgnaaa
