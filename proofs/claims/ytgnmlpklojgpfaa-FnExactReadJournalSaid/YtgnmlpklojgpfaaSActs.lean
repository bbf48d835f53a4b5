/- Rows of acts: in memory, compared, marked. -/
import Derived.Test.YtgnmlpklojgpfaaSPlanForS
namespace Go.Proofs.Ytgnmlpklojgpfaa
set_option linter.unusedVariables false
set_option linter.unusedSimpArgs false
open Go.ChangeShapes Go.WideShapes Go.ChangeAt Go.RowKit

def flatA (aa : List ActD) : List Int := aa.flatMap fun a => [a.kind, a.number]
theorem flatA_cons (a : ActD) (aa : List ActD) : flatA (a :: aa) = a.kind :: a.number :: flatA aa := rfl
theorem flatA_append (aa bs : List ActD) : flatA (aa ++ bs) = flatA aa ++ flatA bs := by simp [flatA]
theorem flatA_len (aa : List ActD) : (flatA aa).length = aa.length * 2 := by
  induction aa with
  | nil => rfl
  | cons a aa ih => rw [flatA_cons]; simp only [List.length_cons, ih]; omega
theorem flatA_at (aa : List ActD) (i : Nat) (a : ActD) (h : aa[i]? = some a) : (flatA aa)[i * 2]? = some a.kind ∧ (flatA aa)[i * 2 + 1]? = some a.number := by
  induction aa generalizing i with
  | nil => simp at h
  | cons x aa ih =>
    rw [flatA_cons]
    cases i with
    | zero => simp at h; subst h; exact ⟨rfl, rfl⟩
    | succ i =>
      simp only [List.getElem?_cons_succ] at h
      obtain ⟨h1, h2⟩ := ih i h
      rw [show (i + 1) * 2 = i * 2 + 1 + 1 by omega]
      simp only [List.getElem?_cons_succ]
      exact ⟨h1, h2⟩
/-- a row of acts of the call's own -/
def rActs (v : Value) (aa : List ActD) : HRes := rRow 31 2 v aa.length (ints (flatA aa))
/-- a row of acts that is read -/
def RdA (w : World) (B : Nat) (A : Option Addr) (n c : Nat) (aa : List ActD) : Prop := aa.length = n ∧ RdRow w B 2 A n c (ints (flatA aa))
theorem RdA.get {w : World} {B n c i : Nat} {A : Option Addr} {aa : List ActD} (h : RdA w B A n c aa) (hi : i < n) : ∃ b off a, A = some ⟨b, off, none⟩ ∧ b < B ∧ aa[i]? = some a ∧ w.cell? ⟨b, off + i * 2, none⟩ = some (.int .i64 a.kind) ∧ w.cell? ⟨b, off + i * 2 + 1, none⟩ = some (.int .i64 a.number) := by
  obtain ⟨b, off, e, hb, hc⟩ := h.2.at_ (by omega)
  have hl := h.1
  have ha : aa[i]? = some (aa[i]'(by omega)) := List.getElem?_eq_getElem _
  obtain ⟨h1, h2⟩ := flatA_at aa i _ ha
  refine ⟨b, off, _, e, hb, ha, hc (i * 2) _ ?_, ?_⟩
  · unfold ints; rw [List.getElem?_map, h1]; rfl
  · rw [Nat.add_assoc]
    refine hc (i * 2 + 1) _ ?_
    unfold ints; rw [List.getElem?_map, h2]; rfl
theorem RdA.up {w w' : World} {A : Option Addr} {n c : Nat} {aa : List ActD} (h : RdA w w.heap.size A n c aa) (hb : Below w.heap.size w w') : RdA w' w'.heap.size A n c aa := ⟨h.1, h.2.up hb⟩
theorem St.rdA {w W : World} {L : List HRes} (h : St w W L) (i : Nat) {v : Value} {aa : List ActD} (hi : L[i]? = some (rActs v aa)) : ∃ A c, v = .slice A aa.length c ∧ RdA W W.heap.size A aa.length c aa := by
  obtain ⟨A, c, hv, hr⟩ := h.rdRow i hi
  exact ⟨A, c, hv, rfl, hr⟩
theorem St.rdA' {w W : World} {L : List HRes} (h : St w W L) (i : Nat) {A : Option Addr} {n c : Nat} {aa : List ActD} (hi : L[i]? = some (rActs (.slice A n c) aa)) : RdA W W.heap.size A n c aa := by
  obtain ⟨A', c', hv, hr⟩ := h.rdA i hi
  simp only [Value.slice.injEq] at hv
  obtain ⟨rfl, rfl, rfl⟩ := hv
  exact hr
def markAS (k n : Nat) : List ActD := (List.range n).map fun i => ⟨((k + 2 * i : Nat) : Int), ((k + 2 * i + 1 : Nat) : Int)⟩
theorem markAS_len (k n : Nat) : (markAS k n).length = n := by simp [markAS]
theorem markAS_at (k n i : Nat) (h : i < n) : (markAS k n)[i]? = some ⟨((k + 2 * i : Nat) : Int), ((k + 2 * i + 1 : Nat) : Int)⟩ := by simp [markAS, h]
/-- the first i marked -/
def mixA (k : Nat) (aa : List ActD) (i : Nat) : List ActD := markAS k i ++ aa.drop i
theorem mixA_len (k : Nat) (aa : List ActD) (i : Nat) (h : i ≤ aa.length) : (mixA k aa i).length = aa.length := by simp [mixA, markAS_len]; omega
theorem mixA_zero (k : Nat) (aa : List ActD) : mixA k aa 0 = aa := by simp [mixA, markAS]
theorem mixA_done (k : Nat) (aa : List ActD) : mixA k aa aa.length = markAS k aa.length := by simp [mixA]
theorem mixA_step (k : Nat) (aa : List ActD) (i : Nat) (h : i < aa.length) : ((ints (flatA (mixA k aa i))).set (i * 2) (.int .i64 ((k + 2 * i : Nat) : Int))).set (i * 2 + 1) (.int .i64 ((k + 2 * i + 1 : Nat) : Int)) = ints (flatA (mixA k aa (i + 1))) := by
  have e1 : mixA k aa i = markAS k i ++ aa[i] :: aa.drop (i + 1) := by unfold mixA; rw [List.drop_eq_getElem_cons h]
  have e2 : mixA k aa (i + 1) = markAS k i ++ ⟨((k + 2 * i : Nat) : Int), ((k + 2 * i + 1 : Nat) : Int)⟩ :: aa.drop (i + 1) := by
    unfold mixA
    have : markAS k (i + 1) = markAS k i ++ [⟨((k + 2 * i : Nat) : Int), ((k + 2 * i + 1 : Nat) : Int)⟩] := by simp [markAS, List.range_succ]
    rw [this]; simp
  have hl : (flatA (markAS k i)).length = i * 2 := by rw [flatA_len, markAS_len]
  rw [ints_set, ints_set, e1, e2, flatA_append, flatA_append, flatA_cons, flatA_cons]
  congr 1
  rw [List.set_append_right _ _ (by omega), List.set_append_right _ _ (by omega), hl, Nat.sub_self, show i * 2 + 1 - i * 2 = 1 by omega]
  rfl
set_option maxRecDepth 100000 in
theorem eqAct_same (k m : Int) (w : World) : Calls Try.prog 26 #[.agg #[.int .i64 k, .int .i64 m], .agg #[.int .i64 k, .int .i64 m]] w fun e w' => e = .returned (.bool true) ∧ Below w.heap.size w w' := by
  go_enter Try.func26, Try.ntmps26
  go_wp2
  go_ret
  exact ⟨rfl, ((Below.refl _ _).alloc (Nat.le_refl _) _).alloc (by simp) _⟩
set_option maxRecDepth 100000 in
theorem eqActS_same (A : Option Addr) (n c : Nat) (aa : List ActD) (A' : Option Addr) (n' c' : Nat) (w : World) (h : RdA w w.heap.size A n c aa) (h' : RdA w w.heap.size A' n' c' aa) :
    Calls Try.prog 41 #[.slice A n c, .slice A' n' c'] w fun e w' => e = .returned (.bool true) ∧ Below w.heap.size w w' := by
  obtain rfl : n' = n := h'.1.symm.trans h.1
  have hcp := h.2.cap
  have hcm := h.2.capMax
  unfold maxLen at hcm
  have H := Lib.hid h
  have H' := Lib.hid h'
  clear h h'
  go_enter Try.func41, Try.ntmps41
  go_wp2
  go_loopw [5] (fun i wr => ∃ k : Nat, k ≤ n' ∧ i = .int .i64 k ∧ Below w.heap.size w wr) (fun i _ => n' - (intOf i).toNat)
  case atStart => exact ⟨0, by omega, rfl, Below.refl _ _⟩
  case round =>
    obtain ⟨k, hk, rfl, hbel⟩ := hrel
    have HB := Lib.hid hbel
    clear hbel
    by_cases hlt : k < n'
    · obtain ⟨b, off, a, rfl, hb, ha, q0, q1⟩ := (H.out.up HB.out).get hlt
      obtain ⟨b', off', a', rfl, hb', ha', q0', q1'⟩ := (H'.out.up HB.out).get hlt
      obtain rfl : a' = a := by have := ha'.symm.trans ha; injection this
      clear ha ha'
      go_wp2
      go_still_tail 8, (by kernel_rfl)
      change wpList _ _ _ _ _ wr.drew
      go_wp2_with fail
      refine (eqAct_same a'.kind a'.number _).mono ?_
      rintro e w2 ⟨rfl, hb2⟩
      have HB2 : Hid (Below w.heap.size w w2) := Lib.hid (HB.out.trans ((((Below.refl _ _).drew).trans hb2).mono HB.out.size))
      clear hb2
      go_wp2
      go_roundw
      case rel => exact ⟨k + 1, by omega, by go_num, HB2.out⟩
      case measure => simp [intOf]; omega
    · go_wp2
      go_ret
      exact ⟨rfl, HB.out⟩
set_option maxRecDepth 100000 in
theorem markActS_st {w W : World} {L : List HRes} (S : St w W L) (i : Nat) {A : Option Addr} {n c : Nat} {aa : List ActD} (hi : L[i]? = some (rActs (.slice A n c) aa)) (k : Nat) (hk : k ≤ 1099511627776) (hs : aa.length ≤ 1048576) :
    Calls Try.prog 42 #[.slice A n c, .int .i64 k] W fun e w' => e = .returned (.int .i64 (k + 2 * aa.length : Nat)) ∧ St w w' (L.set i (rActs (.slice A n c) (markAS k aa.length))) := by
  have hrd := S.rdA' i hi
  have hn : aa.length = n := hrd.1
  have hcp := hrd.2.cap
  have hcm := hrd.2.capMax
  unfold maxLen at hcm
  obtain ⟨F, h1, h2⟩ := S.get i hi
  obtain ⟨h3, hF⟩ := h1
  have HS := Lib.hid S
  have HI := Lib.hid hi
  have HN := Lib.hid hn
  have HF := Lib.hid hF
  have HR := Lib.hid h3
  have HLO := Lib.hid h2
  have hn1 : n ≤ 1048576 := by omega
  clear S hi h2 h3 hF hn hrd hs
  have HFIN : Hid (∀ w', w'.ownsRow 0 31 2 (.slice A n c) n (ints (flatA (markAS k n))) → Only F W w' → St w w' (L.set i (rActs (.slice A n c) (markAS k n)))) := Lib.hid fun w' g1 g2 => HS.out.mod i HI.out fun F' ⟨_, e⟩ _ => ⟨F', ⟨by rw [markAS_len]; exact g1, e⟩, fun b hb => .inl hb, by rw [e, ← HF.out]; exact g2⟩
  rw [HN.out]
  go_enter Try.func42, Try.ntmps42
  go_wp2
  go_loopw [5, 1] (fun iv kk wr => ∃ j : Nat, j ≤ n ∧ iv = .int .i64 j ∧ kk = .int .i64 (k + 2 * j : Nat) ∧ wr.ownsRow 0 31 2 (.slice A n c) n (ints (flatA (mixA k aa j))) ∧ Only F W wr) (fun iv _ _ => n - (intOf iv).toNat)
  case atStart => exact ⟨0, by omega, rfl, rfl, by rw [mixA_zero]; have := HR.out; rw [HN.out] at this; exact this, Only.refl _ _⟩
  case round =>
    obtain ⟨j, hj, rfl, rfl, hown, hon⟩ := hrel
    by_cases hlt : j < n
    · obtain ⟨g, cap, hv, hg, _, _⟩ := own_some hown (by omega)
      simp only [Value.slice.injEq] at hv
      obtain ⟨rfl, -, rfl⟩ := hv
      have hml : (ints (flatA (mixA k aa j))).length = n * 2 := by rw [ints, List.length_map, flatA_len, mixA_len _ _ _ (by rw [HN.out]; omega), HN.out]
      obtain ⟨u0, hu0⟩ : ∃ u, (ints (flatA (mixA k aa j)))[j * 2]? = some u := ⟨_, List.getElem?_eq_getElem (by rw [hml]; omega)⟩
      obtain ⟨u1, hu1⟩ : ∃ u, (ints (flatA (mixA k aa j)))[j * 2 + 1]? = some u := ⟨_, List.getElem?_eq_getElem (by rw [hml]; omega)⟩
      have hc0 : wr.cell? ⟨g, j * 2, none⟩ = some u0 := (hown.cellAt (j * 2) (by omega)).trans hu0
      have hc1 : wr.cell? ⟨g, j * 2 + 1, none⟩ = some u1 := (hown.cellAt (j * 2 + 1) (by omega)).trans hu1
      have hf0 : wr.frozen? ⟨g, j * 2, none⟩ = false := hown.frozenAt _
      have hf1 : wr.frozen? ⟨g, j * 2 + 1, none⟩ = false := hown.frozenAt _
      have HST : Hid (((wr.setCell ⟨g, j * 2, none⟩ (.int .i64 (k + 2 * j : Nat))).setCell ⟨g, j * 2 + 1, none⟩ (.int .i64 (k + 2 * j + 1 : Nat))).ownsRow 0 31 2 (.slice (some ⟨g, 0, none⟩) n c) n (ints (flatA (mixA k aa (j + 1))))) := Lib.hid (by
        have := ((hown.stored (j * 2) (.int .i64 (k + 2 * j : Nat))).1.stored (j * 2 + 1) (.int .i64 (k + 2 * j + 1 : Nat))).1
        rwa [mixA_step k aa j (by rw [HN.out]; omega)] at this)
      have HON : Hid (Only F W ((wr.setCell ⟨g, j * 2, none⟩ (.int .i64 (k + 2 * j : Nat))).setCell ⟨g, j * 2 + 1, none⟩ (.int .i64 (k + 2 * j + 1 : Nat)))) := Lib.hid ((hon.set (by rw [HF.out]; simp [Value.ownBlock]) _).set (by rw [HF.out]; simp [Value.ownBlock]) _)
      clear hu0 hu1 hown hon hml
      go_wp2
      go_roundw
      case rel => exact ⟨j + 1, by omega, by go_num, by go_num, HST.out, HON.out⟩
      case measure => simp [intOf]; omega
    · have hjn : j = n := by omega
      subst hjn
      go_wp2
      go_ret
      have e : mixA k aa j = markAS k j := by rw [← HN.out, mixA_done]
      rw [e] at hown
      exact ⟨rfl, HFIN.out _ hown hon⟩
set_option maxRecDepth 100000 in
theorem heldActS_any (A : Option Addr) (n c k m : Nat) (w : World) (h : RdA w w.heap.size A n c (markAS k m)) (hk : k ≤ 1099511627776) (hs : n ≤ 1048576) :
    Calls Try.prog 43 #[.slice A n c, .int .i64 k] w fun e w' => e = .returned (.int .i64 (k + 2 * m : Nat)) ∧ w = w' := by
  obtain rfl : m = n := by have := h.1; rwa [markAS_len] at this
  have hcap := h.2.cap
  have hcm := h.2.capMax
  unfold maxLen at hcm
  go_enter Try.func43, Try.ntmps43
  go_wp2
  go_loop [5, 1] (fun i kk => ∃ j : Nat, j ≤ m ∧ i = .int .i64 j ∧ kk = .int .i64 (k + 2 * j : Nat)) (fun i _ => m - (intOf i).toNat)
  case atStart => exact ⟨0, by omega, rfl, rfl⟩
  case round =>
    obtain ⟨j, hj, rfl, rfl⟩ := hrel
    by_cases hlt : j < m
    · obtain ⟨b, off, a, rfl, hb, ha, q0, q1⟩ := h.get hlt
      have hxe : a = ⟨((k + 2 * j : Nat) : Int), ((k + 2 * j + 1 : Nat) : Int)⟩ := by have := ha.symm.trans (markAS_at k m j hlt); injection this
      subst hxe
      simp only at q0 q1
      clear ha
      go_wp2
      go_round
      case rel => exact ⟨j + 1, by omega, by go_num, by go_num⟩
      case measure => simp [intOf]; omega
    · have hjn : j = m := by omega
      have HJ := Lib.hid hjn
      clear hjn
      go_wp2
      go_ret
      exact ⟨by rw [← HJ.out]; rfl, rfl⟩
end Go.Proofs.Ytgnmlpklojgpfaa
