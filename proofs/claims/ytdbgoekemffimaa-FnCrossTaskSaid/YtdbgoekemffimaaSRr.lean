/- A row of codes of the call's own, as one thing: each code in a block of its own. -/
import Derived.Test.YtdbgoekemffimaaSGRows
import Derived.Test.YtdbgoekemffimaaSSz
import Derived.Test.YtdbgoekemffimaaSCopy
namespace Go.Proofs.Ytdbgoekemffimaa
set_option linter.unusedVariables false
set_option linter.unusedSimpArgs false
open Go.ChangeShapes Go.WideShapes Go.ChangeAt Go.RowKit

structure OwnR (w : World) (lo : Nat) (v : Value) (xss : List (List Int)) (F : List Nat) (vs : List Value) (Fs : List (List Nat)) : Prop where
  row : w.ownsRow lo 23 1 v xss.length vs
  flen : Fs.length = xss.length
  foot : F = v.ownBlock.toList ++ Fs.flatten
  part : ∀ (i : Nat) xs Fi, xss[i]? = some xs → Fs[i]? = some Fi → ∃ nv, vs[i]? = some nv ∧ OwnI w lo nv xs Fi
section
variable {w w' W W' : World} {lo : Nat} {v : Value} {xss : List (List Int)} {F : List Nat} {vs : List Value} {Fs : List (List Nat)}
theorem OwnR.keep (h : OwnR w lo v xss F vs Fs) (hk : ∀ b ∈ F, w'.heap[b]? = w.heap[b]?) : OwnR w' lo v xss F vs Fs :=
  ⟨ownsRow_heap h.row fun b hb => hk b (by rw [h.foot, hb]; simp), h.flen, h.foot, fun i xs Fi hx hF => by
    obtain ⟨nv, h1, h2⟩ := h.part i xs Fi hx hF
    exact ⟨nv, h1, h2.keep fun b hb => hk b (by rw [h.foot]; exact List.mem_append_right _ (mem_flat hF hb))⟩⟩
theorem OwnR.lt (h : OwnR w lo v xss F vs Fs) : ∀ b ∈ F, lo ≤ b ∧ b < w.heap.size := fun b hb => by
  rw [h.foot] at hb
  rcases List.mem_append.1 hb with hb | hb
  · exact h.row.lt b (by simpa using hb)
  · obtain ⟨Fi, hF, hb⟩ := List.mem_flatten.1 hb
    obtain ⟨i, hi⟩ := List.mem_iff_getElem?.1 hF
    have hl : i < xss.length := by rw [← h.flen]; exact (List.getElem?_eq_some_iff.1 hi).1
    obtain ⟨nv, _, h4⟩ := h.part i _ _ (List.getElem?_eq_getElem hl) hi
    exact h4.lt b hb
theorem OwnR.vlen (h : OwnR w lo v xss F vs Fs) : vs.length = xss.length := by have := h.row.1; omega
theorem OwnR.rd (h : OwnR w lo v xss F vs Fs) : ∃ A c, v = .slice A xss.length c ∧ RdP w w.heap.size A xss.length c xss := by
  rcases h.row.2 with ⟨rfl, h0⟩ | ⟨g, cap, cur, rfl, hg, hh, h3, h4, h5, h6⟩
  · exact ⟨.none, 0, by rw [h0], rfl, by omega, by unfold maxLen; omega, fun hn => by omega⟩
  · refine ⟨_, _, rfl, rfl, h3, h4, fun _ => ⟨g, 0, rfl, (Array.getElem?_eq_some_iff.1 hh).1, fun i xs hi => ?_⟩⟩
    have hl : i < xss.length := (List.getElem?_eq_some_iff.1 hi).1
    obtain ⟨nv, q1, q2⟩ := h.part i xs (Fs[i]'(by rw [h.flen]; exact hl)) hi (List.getElem?_eq_getElem _)
    obtain ⟨A, c, rfl, hr⟩ := q2.rd
    refine ⟨A, c, ?_, hr⟩
    have := h.row.cellAt i (by have := h.vlen; omega)
    rw [Nat.zero_add]
    exact this.trans q1
theorem OwnR.push {v v' nv : Value} {G : List Nat} {xs : List Int} {n : Nat} (h : OwnR W 0 v xss F vs Fs) (hF : F.Nodup) (ho : OwnI W 0 nv xs G) (hdis : ∀ b ∈ F, b ∉ G) (hn : n = xss.length + 1)
    (hown : W'.ownsRow 0 23 1 v' n (vs ++ [nv])) (hg : W.grownBy W' v.ownBlock) (hat : v'.ownBlock = v.ownBlock ∨ v'.ownBlock = some W.heap.size) :
    ∃ F', (∃ vs Fs, OwnR W' 0 v' (xss ++ [xs]) F' vs Fs ∧ F'.Nodup) ∧ (∀ b ∈ F', b ∈ F ∨ b ∈ G ∨ W.heap.size ≤ b) ∧ Only F W W' := by
  have hcl := h.vlen
  have hfl := h.flen
  have hlt := h.lt
  have hft := h.foot
  have hnd : (v.ownBlock.toList ++ Fs.flatten).Nodup := hft ▸ hF
  have hin : ∀ b ∈ Fs.flatten, b ∈ F := fun b hb => by rw [hft]; exact List.mem_append_right _ hb
  have hold : ∀ b ∈ Fs.flatten, W'.heap[b]? = W.heap[b]? := fun b hx => by
    have hne : v.ownBlock ≠ some b := fun e => by
      rw [e, List.nodup_append] at hnd
      exact hnd.2.2 b (by simp) b hx rfl
    exact hg.block b (hlt b (hin b hx)).2 (fun e => hne (by first | exact e | exact e.symm))
  have hnewb : ∀ b ∈ G, W'.heap[b]? = W.heap[b]? := fun b hx => by
    refine hg.block b (ho.lt b hx).2 (fun e => ?_)
    have hv : v.ownBlock = some b := by first | exact e | exact e.symm
    exact hdis b (by rw [hft, hv]; simp) hx
  have hvl : ∀ b ∈ v'.ownBlock.toList, b ∉ Fs.flatten ∧ b ∉ G ∧ (b ∈ F ∨ W.heap.size ≤ b) := fun b hx => by
    have hx : v'.ownBlock = some b := by simpa using hx
    rcases hat with e | e
    · have hv : v.ownBlock = some b := by rw [← e]; exact hx
      have hbF : b ∈ F := by rw [hft, hv]; simp
      rw [hv, List.nodup_append] at hnd
      exact ⟨fun hh => hnd.2.2 b (by simp) b hh rfl, hdis b hbF, .inl hbF⟩
    · have hv : b = W.heap.size := by rw [e] at hx; injection hx with hx; exact hx.symm
      refine ⟨fun hh => ?_, fun hh => ?_, .inr (by omega)⟩
      · have := (hlt b (hin b hh)).2; omega
      · have := (ho.lt b hh).2; omega
  refine ⟨v'.ownBlock.toList ++ (Fs ++ [G]).flatten, ⟨vs ++ [nv], Fs ++ [G], ⟨by subst hn; simpa using hown, by simp [hfl], rfl, fun i e Fi he hFi => ?_⟩, ?_⟩, ?_, ?_⟩
  · rcases Nat.lt_or_ge i xss.length with hi | hi
    · rw [List.getElem?_append_left (by omega)] at hFi
      rw [List.getElem?_append_left hi] at he
      obtain ⟨nv', q0, q4⟩ := h.part i e Fi he hFi
      refine ⟨nv', ?_, q4.keep fun b hx => hold b (mem_flat hFi hx)⟩
      rw [List.getElem?_append_left (by omega)]; exact q0
    · have hik : i = xss.length := by
        have := (List.getElem?_eq_some_iff.1 he).1
        simp at this; omega
      subst hik
      rw [List.getElem?_append_right (Nat.le_refl _), Nat.sub_self] at he
      simp only [List.getElem?_cons_zero, Option.some.injEq] at he
      subst he
      rw [List.getElem?_append_right (by omega), hfl, Nat.sub_self] at hFi
      simp only [List.getElem?_cons_zero, Option.some.injEq] at hFi
      subst hFi
      refine ⟨nv, ?_, ho.keep hnewb⟩
      rw [List.getElem?_append_right (by omega), hcl, Nat.sub_self]; rfl
  · rw [List.flatten_append]
    refine nodup_app (by cases v'.ownBlock <;> simp) (nodup_app (List.nodup_append.1 hnd).2.1 (by simpa using ho.nodup) fun b hb hb' => hdis b (hin b hb) (by simpa using hb')) fun b hb hb' => ?_
    rcases List.mem_append.1 hb' with hb' | hb'
    · exact (hvl b hb).1 hb'
    · exact (hvl b hb).2.1 (by simpa using hb')
  · intro b hb
    rw [List.flatten_append] at hb
    rcases List.mem_append.1 hb with hb | hb
    · rcases (hvl b hb).2.2 with h | h
      · exact .inl h
      · exact .inr (.inr h)
    · rcases List.mem_append.1 hb with hb | hb
      · exact .inl (hin b hb)
      · exact .inr (.inl (by simpa using hb))
  · exact (Only.of_grown hg).sub fun x hx => by rw [hft]; exact List.mem_append_left _ hx
/-- a row of codes -/
def rRows (v : Value) (xss : List (List Int)) : HRes where
  at_ w F := ∃ vs Fs, OwnR w 0 v xss F vs Fs ∧ F.Nodup
  keep w w' F h hk := by obtain ⟨c, Fs, h1, h2⟩ := h; exact ⟨c, Fs, h1.keep hk, h2⟩
  lt w F h b hb := by obtain ⟨c, Fs, h1, h2⟩ := h; exact (h1.lt b hb).2
  nd w F h := by obtain ⟨c, Fs, h1, h2⟩ := h; exact h2
theorem rRows_nil (w W : World) (h : Below w.heap.size w W) : St w W [rRows (.slice none 0 0) []] :=
  ⟨h, [[]], rfl, fun i R F hR hF => by
    match i with
    | 0 =>
      injection hR with hR; injection hF with hF; subst hR hF
      exact ⟨⟨[], [], ⟨World.ownsRow_nil W 0 _ 1, rfl, rfl, by simp⟩, by simp⟩, by simp⟩
    | i + 1 => simp at hR, by simp⟩
theorem St.newR (W : World) (g : Nat) (hg : g = W.heap.size) : St W (W.alloc (.cells #[] 23)) [rRows (.slice (some ⟨g, 0, none⟩) 0 0) []] :=
  (St.new1At W g #[] 23 hg).see fun F h _ => by
    obtain ⟨h1, rfl⟩ := h
    exact ⟨[], [], ⟨⟨by simp, .inr ⟨g, 0, #[], rfl, Nat.zero_le _, h1, Nat.le_refl _, by unfold maxLen; omega, rfl, rfl⟩⟩, rfl, rfl, by simp⟩, by simp⟩
theorem St.rdP {L : List HRes} (h : St w W L) (i : Nat) {v : Value} (hi : L[i]? = some (rRows v xss)) : ∃ A c, v = .slice A xss.length c ∧ RdP W W.heap.size A xss.length c xss := by
  obtain ⟨F, ⟨vs, Fs, h1, -⟩, -⟩ := h.get i hi; exact h1.rd
theorem St.rdP' {L : List HRes} (h : St w W L) (i : Nat) {A : Option Addr} {n c : Nat} (hi : L[i]? = some (rRows (.slice A n c) xss)) : RdP W W.heap.size A n c xss := by
  obtain ⟨A', c', e, hr⟩ := h.rdP i hi
  simp only [Value.slice.injEq] at e
  obtain ⟨rfl, rfl, rfl⟩ := e
  exact hr
theorem St.rowR {L : List HRes} (h : St w W L) (i : Nat) {v : Value} (hi : L[i]? = some (rRows v xss)) : ∃ vs, W.ownsRow 0 23 1 v xss.length vs := by
  obtain ⟨F, ⟨vs, Fs, h1, -⟩, -⟩ := h.get i hi; exact ⟨vs, h1.row⟩
/-- behind 'xss = append(xss, xs)' -/
theorem Sn.pushR {M : Nat → Option HRes} (h : Sn w W M) (k j : Nat) (hne : k ≠ j) {v v' nv : Value} {xs : List Int} {n : Nat} (hk : M k = some (rRows v xss)) (hj : M j = some (rInts nv xs)) (hn : n = xss.length + 1)
    {vs : List Value} (hrow : W.ownsRow 0 23 1 v xss.length vs) (hown : W'.ownsRow 0 23 1 v' n (vs ++ [nv])) (hg : W.grownBy W' v.ownBlock) (hat : v'.ownBlock = v.ownBlock ∨ v'.ownBlock = some W.heap.size) :
    Sn w W' (fun i => if i = k then some (rRows v' (xss ++ [xs])) else if i = j then none else M i) :=
  h.merge k j hne hk hj fun F G ⟨c, Fs, h1, h2⟩ g1 hdis hlo => OwnR.push h1 h2 g1 hdis hn (by rw [own_unique h1.row hrow]; exact hown) hg hat
end
set_option maxRecDepth 100000 in
theorem allHold_st (A : Option Addr) (n c : Nat) (xss : List (List Int)) (w : World) (h : RdP w w.heap.size A n c xss) (hs : ∀ xs ∈ xss, xs.length ≤ 64) (hn : n ≤ 1024) :
    Calls Try.prog 83 #[.slice A n c] w (Gives w id fun v => [rInts v (codeAll xss)]) := by
  have hl := h.len
  have hcp := h.cap
  have hcm := h.capMax
  unfold maxLen at hcm
  have HL := Lib.hid hl; clear hl
  by_cases h0 : n = 0
  · subst h0
    have hx : xss = [] := List.eq_nil_of_length_eq_zero HL.out
    subst hx
    have HO := Lib.hid (St.newLit w [5] 1 rfl (by simp) (by simp; rfl))
    go_enter Try.func83, Try.ntmps83
    go_wp2
    go_ret
    exact ⟨_, rfl, HO.out⟩
  · obtain ⟨b, off, x0, A0, c0, rfl, hb, hx0, hc0, hr0⟩ := h.get (show 0 < n by omega)
    have hc0' : w.cell? ⟨b, off, none⟩ = some (.slice A0 x0.length c0) := by simpa using hc0
    have hsx := hs x0 (List.mem_of_getElem? hx0)
    have HX0 : Hid (codeAll (xss.take 1) = x0) := Lib.hid (by cases xss with
      | nil => simp at hx0
      | cons y r => simp at hx0; subst hx0; simp [codeAll])
    have HR0 := Lib.hid hr0
    have HP := Lib.hid h
    have HSS := Lib.hid hs
    clear hc0 hx0 hr0 h hs
    go_enter Try.func83, Try.ntmps83
    go_wp2_with fail
    refine (clone_any A0 x0.length c0 x0 _ HR0.out (by omega)).mono ?_
    rintro e w1 ⟨v1, rfl, s1⟩
    have HS1 : Hid (St w w1 [rInts v1 (codeAll (xss.take 1))]) := Lib.hid (by rw [HX0.out]; exact s1)
    have hl1 : (codeAll (xss.take 1)).length ≤ 65 * 1 + 1 := by rw [HX0.out]; omega
    clear s1
    by_cases hc1 : c = 1
    · have hn1 : n = 1 := by omega
      have HT : Hid (xss.take 1 = xss) := Lib.hid (by rw [← hn1, ← HL.out, List.take_length])
      rw [HT.out] at HS1
      subst hc1 hn1
      clear hl1 HT
      go_wp2
      go_loopw [17, 3] (fun i v wr => i = .int .i64 0 ∧ St w wr [rInts v (codeAll xss)]) (fun _ _ _ => 0)
      case atStart => exact ⟨rfl, HS1.out⟩
      case round =>
        obtain ⟨rfl, S⟩ := hrel
        have HS := Lib.hid S
        clear S
        go_wp2
        go_ret
        exact ⟨_, rfl, HS.out⟩
    go_wp2
    go_loopw [17, 3] (fun i v wr => ∃ (k : Nat), k + 1 ≤ n ∧ i = .int .i64 k ∧ St w wr [rInts v (codeAll (xss.take (k + 1)))] ∧ (codeAll (xss.take (k + 1))).length ≤ 65 * (k + 1) + 1) (fun i _ _ => n - (intOf i).toNat)
    case atStart => exact ⟨0, by omega, rfl, HS1.out, hl1⟩
    case round =>
      obtain ⟨k, hk, rfl, S, hlen⟩ := hrel
      have HS := Lib.hid S
      clear S hl1
      by_cases hlt : k + 1 < n
      · obtain ⟨b', off', x, Ai, ci, e, hb', hx, hcx, hrx⟩ := HP.out.get hlt
        simp only [Option.some.injEq, Addr.mk.injEq] at e
        obtain ⟨rfl, rfl, -⟩ := e
        have hcr : wr.cell? ⟨b, off + 1 + k, none⟩ = some (.slice Ai x.length ci) := by
          have := (bcells HS.out.below b _ hb').trans hcx
          rw [show off + 1 + k = off + (k + 1) by omega]; exact this
        have hrr := Lib.hid (hrx.below HS.out.below)
        have hsx' := HSS.out x (List.mem_of_getElem? hx)
        have HC := Lib.hid (codeAll_take xss (k + 1) (by omega) x hx)
        have hsz := HS.out.below.size
        have HO := Lib.hid (HS.out.ownI 0 rfl)
        have HWX := Lib.hid hrx.wf
        clear hcx hx hrx
        go_wp2_with (first
          | (at_builtin; refine wp_app elInt rfl (.tmp 21) (.tmp 22) rfl 0 _ _ _ rfl HO.out w.heap.size Ai x.length ci (ints x) rfl hrr.out.row (ints_cell _) (by omega) (by omega) (by omega) ?_; intro v3 w3 hown3 hg3 hat3; have HS3 := Lib.hid (HS.out.appI 0 (ys := x) rfl (by simp) hown3 HWX.out hg3 hat3); have HO3 := Lib.hid (HS3.out.ownI 0 rfl))
          | (at_builtin; refine wp_app elInt rfl (.tmp 24) (.tmp 25) rfl 0 v3 _ _ rfl (HO3.out.alloc _) _ _ 1 1 [.int .i64 8] rfl (RdRow.new w3 [.int .i64 8] 3 1 1 rfl (by unfold maxLen; omega)) (by simp [Value.oneCell']) (by simp; omega) (by simp; omega) (by omega) ?_; intro v4 w4 hown4 hg4 hat4; have HS4 := Lib.hid (((HS3.out.alloc #[.int .i64 8] 3).pick [0] (by decide) rfl rfl).appI 0 (ys := [8]) rfl rfl hown4 (by simp; rfl) hg4 hat4)))
        have HS5 : Hid (St w w4 [rInts v4 (codeAll (xss.take (k + 1 + 1)))]) := Lib.hid (by rw [HC.out]; exact HS4.out)
        have hl5 : (codeAll (xss.take (k + 1 + 1))).length ≤ 65 * (k + 1 + 1) + 1 := by rw [HC.out]; simp; omega
        clear hown3 hown4 hg3 hg4 hat3 hat4
        go_wp2
        go_roundw
        case rel => exact ⟨k + 1, by omega, by go_num, HS5.out, hl5⟩
        case measure => simp [intOf]; omega
      · have hkn : k + 1 = n := by omega
        have HT : Hid (xss.take (k + 1) = xss) := Lib.hid (by rw [hkn, ← HL.out, List.take_length])
        go_wp2
        go_ret
        rw [HT.out] at HS
        exact ⟨_, rfl, HS.out⟩
end Go.Proofs.Ytdbgoekemffimaa
