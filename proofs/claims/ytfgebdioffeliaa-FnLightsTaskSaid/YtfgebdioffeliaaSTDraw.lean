/- Joined texts: TDraw, DsPut, TDraw2, Graph. -/
import Derived.Test.YtfgebdioffeliaaSFront
import Derived.Test.YtfgebdioffeliaaSBValid
import Derived.Test.YtfgebdioffeliaaSPlanForW
import Derived.Test.YtfgebdioffeliaaSActs
import Derived.Test.YtfgebdioffeliaaSGraphV
import Derived.RegionTactic
import Derived.ChangeAlike
/- The draws of conditions, deeds and tasks: what is drawn is some condition, deed or task of its own; nothing is said of which. -/
namespace Go.Proofs.Ytfgebdioffeliaa
set_option linter.unusedVariables false
set_option linter.unusedSimpArgs false
open Go.ChangeShapes Go.WideShapes Go.ChangeAt Go.RowKit

def Dig (xs : List Int) : Prop := ∀ x ∈ xs, 0 ≤ x ∧ x ≤ 9
theorem Dig.wf {xs : List Int} (h : Dig xs) : ∀ x ∈ xs, (Lit.int .i64 x).wf = true := fun x hx => wf_i64_mk (by have := h x hx; omega)
theorem Dig.app {xs ys : List Int} (h : Dig xs) (k : Dig ys) : Dig (xs ++ ys) := fun x hx => (List.mem_append.1 hx).elim (h x) (k x)
theorem Dig.one {x : Int} (h0 : 0 ≤ x) (h1 : x ≤ 9) : Dig [x] := fun y hy => by rw [List.mem_singleton] at hy; subst hy; exact ⟨h0, h1⟩
theorem Dig.two {x y : Int} (h0 : 0 ≤ x) (h1 : x ≤ 9) (k0 : 0 ≤ y) (k1 : y ≤ 9) : Dig [x, y] := (Dig.one h0 h1).app (Dig.one k0 k1)
theorem St.lit (w : World) (xs : List Int) (n : Nat) (e : n = xs.length) (hn : xs.length ≤ 1024) (hwf : ∀ x ∈ xs, (Lit.int .i64 x).wf = true) :
    St w (w.alloc (.cells (Go.Proofs.Ytfgebdioffeliaa.ints xs).toArray 3)) [rInts (.slice (some ⟨w.heap.size, 0, none⟩) n n) xs] :=
  (St.new1 w (Go.Proofs.Ytfgebdioffeliaa.ints xs).toArray 3).see fun F h _ => blk_ints (xs := xs) h (by unfold maxLen; omega) hwf e
theorem St.putI {w W : World} {L : List HRes} (h : St w W L) (i : Nat) {g n c : Nat} {xs : List Int} (hi : L[i]? = some (rInts (.slice (some ⟨g, 0, none⟩) n c) xs)) (hn : xs.length = n) (k : Nat) (y : Int) (hy : (Lit.int .i64 y).wf = true) :
    St w (W.setCell ⟨g, k, none⟩ (.int .i64 y)) (L.set i (rInts (.slice (some ⟨g, 0, none⟩) n c) (xs.set k y))) := by
  subst hn
  refine h.mod i hi fun F h1 _ => ⟨F, ⟨?_, fun x hx => (List.mem_or_eq_of_mem_set hx).elim (h1.wf x) (fun e => e ▸ hy), h1.foot⟩, fun b hb => .inl hb, (Only.refl F W).set (by rw [h1.foot]; simp [Value.ownBlock]) _⟩
  have := (h1.row.stored k (.int .i64 y)).1
  rw [ints_set] at this
  rw [List.length_set]
  exact this
end Go.Proofs.Ytfgebdioffeliaa

/- A deed of a row of the call's own is read, and put in place of another; things under other numbers. -/
namespace Go.Proofs.Ytfgebdioffeliaa
set_option linter.unusedVariables false
set_option linter.unusedSimpArgs false
open Go.ChangeShapes Go.WideShapes Go.ChangeAt Go.RowKit

section
variable {w W W' : World} {L : List HRes}
theorem OwnDs.put {nv : Value} {ds : List DeedD} {F G : List Nat} {cells : List Value} {Fs : List (List Nat)} {d : DeedD} {g n c i : Nat} (h : OwnDs W 0 (.slice (some ⟨g, 0, none⟩) n c) ds F cells Fs) (hn : ds.length = n) (hF : F.Nodup) (ho : OwnI W 0 nv d.need G) (hdis : ∀ b ∈ F, b ∉ G)
    (hi : i < n) (hs : d.need.length ≤ 1048576) (hwf : (Lit.int .i64 d.on).wf = true ∧ (Lit.int .i64 d.off).wf = true ∧ (Lit.int .i64 d.flip).wf = true) :
    ∃ F', (∃ cells Fs, OwnDs ((((W.setCell ⟨g, i * 4, none⟩ nv).setCell ⟨g, i * 4 + 1, none⟩ (.int .i64 d.on)).setCell ⟨g, i * 4 + 2, none⟩ (.int .i64 d.off)).setCell ⟨g, i * 4 + 3, none⟩ (.int .i64 d.flip)) 0 (.slice (some ⟨g, 0, none⟩) n c) (ds.set i d) F' cells Fs ∧ F'.Nodup) ∧ (∀ b ∈ F', b ∈ F ∨ b ∈ G ∨ W.heap.size ≤ b) ∧
      Only F W ((((W.setCell ⟨g, i * 4, none⟩ nv).setCell ⟨g, i * 4 + 1, none⟩ (.int .i64 d.on)).setCell ⟨g, i * 4 + 2, none⟩ (.int .i64 d.off)).setCell ⟨g, i * 4 + 3, none⟩ (.int .i64 d.flip)) := by
  subst hn
  have hrow := h.row
  have hcl : cells.length = ds.length * 4 := hrow.1
  have hfl := h.flen
  have hft : F = g :: Fs.flatten := h.foot
  have hgF : g ∈ F := by rw [hft]; simp
  have hnd : (g :: Fs.flatten).Nodup := hft ▸ hF
  have hgn : g ∉ Fs.flatten := (List.nodup_cons.1 hnd).1
  have ho4 := (((hrow.stored (i * 4) nv).1.stored (i * 4 + 1) (.int .i64 d.on)).1.stored (i * 4 + 2) (.int .i64 d.off)).1.stored (i * 4 + 3) (.int .i64 d.flip)
  have hon : Only [g] W ((((W.setCell ⟨g, i * 4, none⟩ nv).setCell ⟨g, i * 4 + 1, none⟩ (.int .i64 d.on)).setCell ⟨g, i * 4 + 2, none⟩ (.int .i64 d.off)).setCell ⟨g, i * 4 + 3, none⟩ (.int .i64 d.flip)) :=
    ((((Only.refl [g] W).set (by simp) nv).set (by simp) (.int .i64 d.on)).set (by simp) (.int .i64 d.off)).set (by simp) (.int .i64 d.flip)
  generalize ((((W.setCell ⟨g, i * 4, none⟩ nv).setCell ⟨g, i * 4 + 1, none⟩ (.int .i64 d.on)).setCell ⟨g, i * 4 + 2, none⟩ (.int .i64 d.off)).setCell ⟨g, i * 4 + 3, none⟩ (.int .i64 d.flip)) = W2 at ho4 hon ⊢
  have hkeep : ∀ b, b ∈ Fs.flatten ∨ b ∈ G → W2.heap[b]? = W.heap[b]? := fun b hb => by
    refine hon.block b ?_ (fun hm => ?_)
    · rcases hb with hb | hb
      · exact (h.lt b (by rw [hft]; exact List.mem_cons_of_mem _ hb)).2
      · exact (ho.lt b hb).2
    · rw [List.mem_singleton] at hm
      subst hm
      rcases hb with hb | hb
      · exact hgn hb
      · exact hdis b hgF hb
  have hset : (Fs.set i G).length = Fs.length := by simp
  have hmem : ∀ b, b ∈ (Fs.set i G).flatten → b ∈ Fs.flatten ∨ b ∈ G := fun b hb => by
    obtain ⟨K, hK, hb⟩ := List.mem_flatten.1 hb
    rcases List.mem_or_eq_of_mem_set hK with hK | hK
    · exact .inl (List.mem_flatten.2 ⟨K, hK, hb⟩)
    · exact .inr (hK ▸ hb)
  refine ⟨g :: (Fs.set i G).flatten, ⟨_, Fs.set i G, ⟨by rw [List.length_set]; exact ho4.1, by simpa using h.small, by simpa using hfl, rfl, fun j e Fj he hFj => ?_⟩, ?_⟩, fun b hb => ?_, hon.sub fun x hx => by rw [List.mem_singleton] at hx; rw [hx]; exact hgF⟩
  · by_cases hij : i = j
    · subst hij
      rw [List.getElem?_set_self hi] at he
      injection he with he
      subst he
      rw [List.getElem?_set_self (by omega)] at hFj
      injection hFj with hFj
      subst hFj
      refine ⟨nv, ?_, ?_, ?_, ?_, ho.keep fun b hb => hkeep b (.inr hb), hs, hwf⟩
      · rw [List.getElem?_set_ne (by omega), List.getElem?_set_ne (by omega), List.getElem?_set_ne (by omega), List.getElem?_set_self (by omega)]
      · rw [List.getElem?_set_ne (by omega), List.getElem?_set_ne (by omega), List.getElem?_set_self (by simp; omega)]
      · rw [List.getElem?_set_ne (by omega), List.getElem?_set_self (by simp; omega)]
      · rw [List.getElem?_set_self (by simp; omega)]
    · rw [List.getElem?_set_ne hij] at he hFj
      obtain ⟨nv', q0, q1, q2, q3, q4, r⟩ := h.deed j e Fj he hFj
      refine ⟨nv', ?_, ?_, ?_, ?_, q4.keep fun b hb => hkeep b (.inl (mem_flat hFj hb)), r⟩
      · rw [List.getElem?_set_ne (by omega), List.getElem?_set_ne (by omega), List.getElem?_set_ne (by omega), List.getElem?_set_ne (by omega)]; exact q0
      · rw [List.getElem?_set_ne (by omega), List.getElem?_set_ne (by omega), List.getElem?_set_ne (by omega), List.getElem?_set_ne (by omega)]; exact q1
      · rw [List.getElem?_set_ne (by omega), List.getElem?_set_ne (by omega), List.getElem?_set_ne (by omega), List.getElem?_set_ne (by omega)]; exact q2
      · rw [List.getElem?_set_ne (by omega), List.getElem?_set_ne (by omega), List.getElem?_set_ne (by omega), List.getElem?_set_ne (by omega)]; exact q3
  · rw [List.nodup_cons]
    refine ⟨fun hb => ?_, flat_nodup (fun j K hK => ?_) fun j l K H hne hK hH => ?_⟩
    · rcases hmem g hb with hb | hb
      · exact hgn hb
      · exact hdis g hgF hb
    · by_cases hij : i = j
      · subst hij
        rw [List.getElem?_set_self (by omega)] at hK
        injection hK with hK
        rw [← hK]; exact ho.nodup
      · rw [List.getElem?_set_ne hij] at hK
        exact (List.pairwise_flatten.1 (List.nodup_cons.1 hnd).2).1 K (List.mem_of_getElem? hK)
    · have hap := fun (j l : Nat) (K H : List Nat) hne hK hH => flat_apart (i := j) (j := l) (F := K) (G := H) (List.nodup_cons.1 hnd).2 hK hH hne
      by_cases hij : i = j
      · subst hij
        rw [List.getElem?_set_self (by omega)] at hK
        injection hK with hK
        rw [List.getElem?_set_ne (by omega)] at hH
        rw [← hK]
        exact fun b hb hb' => hdis b (by rw [hft]; exact List.mem_cons_of_mem _ (mem_flat hH hb')) hb
      · rw [List.getElem?_set_ne hij] at hK
        by_cases hil : i = l
        · subst hil
          rw [List.getElem?_set_self (by omega)] at hH
          injection hH with hH
          rw [← hH]
          exact fun b hb hb' => hdis b (by rw [hft]; exact List.mem_cons_of_mem _ (mem_flat hK hb)) hb'
        · rw [List.getElem?_set_ne hil] at hH
          exact hap j l K H hne hK hH
  · rcases List.mem_cons.1 hb with hb | hb
    · exact .inl (hb ▸ hgF)
    · rcases hmem b hb with hb | hb
      · exact .inl (by rw [hft]; exact List.mem_cons_of_mem _ hb)
      · exact .inr (.inl hb)
theorem St.putD {nv : Value} {ds : List DeedD} {d : DeedD} {g n c i : Nat} (h : St w W (rDeeds (.slice (some ⟨g, 0, none⟩) n c) ds :: rInts nv d.need :: L)) (hn : ds.length = n) (hi : i < n) (hs : d.need.length ≤ 1048576)
    (hwf : (Lit.int .i64 d.on).wf = true ∧ (Lit.int .i64 d.off).wf = true ∧ (Lit.int .i64 d.flip).wf = true) :
    St w ((((W.setCell ⟨g, i * 4, none⟩ nv).setCell ⟨g, i * 4 + 1, none⟩ (.int .i64 d.on)).setCell ⟨g, i * 4 + 2, none⟩ (.int .i64 d.off)).setCell ⟨g, i * 4 + 3, none⟩ (.int .i64 d.flip)) (rDeeds (.slice (some ⟨g, 0, none⟩) n c) (ds.set i d) :: L) :=
  drop2_st ((Sn.of_st h).merge 0 1 (by decide) rfl rfl fun F G ⟨cs, Fs, h1, h2⟩ g1 hdis hlo => OwnDs.put h1 hn h2 g1 hdis hi hs hwf) rfl fun i => rfl
end
end Go.Proofs.Ytfgebdioffeliaa

/- The draw of a task: some task of its own, with few deeds. Printed by gen_tdraw.py. -/
namespace Go.Proofs.Ytfgebdioffeliaa
set_option linter.unusedVariables false
set_option linter.unusedSimpArgs false
open Go.ChangeShapes Go.WideShapes Go.ChangeAt Go.RowKit
def up5 (i : Nat) : Nat := if i < 5 then i else i + 2
def dn6 (i : Nat) : Nat := if i = 0 then 0 else if i < 5 then i + 1 else if i = 5 then 1 else i - 1
def dn5 (i : Nat) : Nat := if i < 5 then i else i - 2
def DeedB (m : Int) (d : DeedD) : Prop := d.need.length ≤ 4 ∧ (-m ≤ d.on ∧ d.on ≤ m) ∧ (-m ≤ d.off ∧ d.off ≤ m) ∧ (-m ≤ d.flip ∧ d.flip ≤ m)
abbrev DeedSm (d : DeedD) : Prop := DeedB 200 d
theorem DeedB.mono {m m' : Int} {d : DeedD} (h : DeedB m d) (hm : m ≤ m') : DeedB m' d := by
  obtain ⟨h1, h2, h3, h4⟩ := h
  exact ⟨h1, by omega, by omega, by omega⟩
def TaskSm (t : TaskD) : Prop := t.goal.length ≤ 6 ∧ t.deeds.length ≤ 7 ∧ (-1 ≤ t.start ∧ t.start ≤ 32) ∧ ∀ d ∈ t.deeds, DeedB 600 d
end Go.Proofs.Ytfgebdioffeliaa

/- countBits of the program: how many bits of a number are 1. -/
namespace Go.Proofs.Ytfgebdioffeliaa
open Go.ChangeShapes Go.WideShapes Go.ChangeAt Go.RowKit

def cntF : Nat → Nat → Nat
  | 0, _ => 0
  | f + 1, n => if n = 0 then 0 else 1 + cntF f (n &&& (n - 1))
def popc (n : Nat) : Nat := cntF n n
theorem cntF_enough (f : Nat) : ∀ f' n, n ≤ f → n ≤ f' → cntF f n = cntF f' n := by
  induction f with
  | zero => intro f' n h _; obtain rfl : n = 0 := by omega
            cases f' <;> simp [cntF]
  | succ f ih =>
    intro f' n h h'
    by_cases hn : n = 0
    · subst hn; cases f' <;> simp [cntF]
    · cases f' with
      | zero => omega
      | succ f' =>
        have hle : n &&& (n - 1) ≤ n - 1 := Nat.and_le_right
        rw [cntF, cntF, if_neg hn, if_neg hn, ih f' _ (by omega) (by omega)]
theorem popc_zero : popc 0 = 0 := rfl
theorem popc_step (n : Nat) (h : 0 < n) : popc n = 1 + popc (n &&& (n - 1)) := by
  unfold popc
  cases n with
  | zero => omega
  | succ m =>
    have hle : (m + 1) &&& (m + 1 - 1) ≤ m + 1 - 1 := Nat.and_le_right
    rw [cntF, if_neg (by omega)]
    rw [cntF_enough m _ _ (by omega) (Nat.le_refl _)]
theorem countBits_nat (n : Nat) (hn : n < 4611686018427387904) (w : World) :
    Calls Try.prog 39 #[.int .i64 n] w fun e w' => e = .returned (.int .i64 (popc n : Nat)) ∧ w = w' := by
  go_enter Try.func39, Try.ntmps39
  go_wp2
  go_loop [0, 3] (fun s p => ∃ m k : Nat, m ≤ n ∧ k + popc m = popc n ∧ k + m ≤ n ∧ s = .int .i64 m ∧ p = .int .i64 k) (fun s _ => (intOf s).toNat)
  case atStart => exact ⟨n, 0, Nat.le_refl _, by omega, by omega, rfl, rfl⟩
  case round =>
    obtain ⟨m, k, hm, hk, hkm, rfl, rfl⟩ := hrel
    have HK := Lib.hid hk; clear hk
    by_cases hz : 0 < m
    · have hle : m &&& (m - 1) ≤ m - 1 := Nat.and_le_right
      have hx := i64_and_nat m (m - 1) (by omega) (by omega)
      have hs : ((m - 1 : Nat) : Int) = (m : Int) - 1 := by omega
      rw [hs] at hx
      have HS := Lib.hid (popc_step m hz)
      generalize m &&& (m - 1) = m' at *
      clear hs
      have hne : ((m : Int) != 0) = true := by rw [bne_iff_ne]; omega
      go_wp2
      go_round
      case rel => exact ⟨m', k + 1, by omega, by have := HS.out; have := HK.out; omega, by omega, rfl, by go_num⟩
      case measure => simp [intOf]; omega
    · obtain rfl : m = 0 := by omega
      go_wp2
      go_ret
      refine ⟨ret_int ?_, rfl⟩
      have := HK.out
      rw [popc_zero] at this
      show (k : Int) = _
      omega
theorem countBits_any (n : Int) (h0 : 0 ≤ n) (hn : n < 4611686018427387904) (w : World) :
    Calls Try.prog 39 #[.int .i64 n] w fun e w' => e = .returned (.int .i64 (popc n.toNat : Nat)) ∧ w = w' := by
  have h := countBits_nat n.toNat (by omega) w
  rwa [toNat_cast h0] at h

end Go.Proofs.Ytfgebdioffeliaa
