/- Joined texts: App, Turn, TTask. -/
import Derived.Test.YtkimgdfcgfhibaaDoorSSz
import Derived.Deep.RegionLaw
import Derived.Deep.RegionHeld3
import Derived.Deep.DeepCutAuto
/- Append in a region that draws its order; rows of codes of the call's own (OwnP); rows of deeds that grow by append (PushDs). -/
namespace Go.Proofs.YtkimgdfcgfhibaaDoor
open Go.ChangeShapes Go.WideShapes Go.ChangeAt Go.RowKit

section
variable {w w2 w3 : World} {lo : Nat} {v v' : Value}
theorem OwnI.lit (w : World) (lo : Nat) (xs : List Int) (hlo : lo ≤ w.heap.size) (hn : xs.length ≤ maxLen) (hwf : ∀ x ∈ xs, (Lit.int .i64 x).wf = true) :
    OwnI (w.alloc (.cells (ints xs).toArray 3)) lo (.slice (some ⟨w.heap.size, 0, none⟩) xs.length xs.length) xs [w.heap.size] :=
  ⟨World.ownsRow_lit w (ints xs).toArray xs.length hlo hn (by simp [ints]), hwf, rfl⟩
theorem OwnI.none (w : World) (lo : Nat) : OwnI w lo (.slice .none 0 0) [] [] := ⟨World.ownsRow_nil w lo _ 1, by simp, rfl⟩
theorem OwnI.app {n : Nat} {xs news : List Int} {F : List Nat} (h : OwnI w lo v xs F) (hl : xs.length + news.length = n) (hown : w3.ownsRow lo 3 1 v' n (ints xs ++ ints news)) (hwf : ∀ x ∈ news, (Lit.int .i64 x).wf = true) : OwnI w3 lo v' (xs ++ news) v'.ownBlock.toList :=
  ⟨by rw [List.length_append, hl, show ints (xs ++ news) = ints xs ++ ints news by simp [ints]]; exact hown, fun x hx => (List.mem_append.1 hx).elim (h.wf x) (hwf x), rfl⟩

/-- a row of codes of its own: each code in a block that is not the row's -/
structure OwnP (w : World) (lo : Nat) (v : Value) (xss : List (List Int)) (vs : List Value) : Prop where
  row : w.ownsRow lo 23 1 v xss.length vs
  at_ : ∀ (i : Nat) xs, xss[i]? = some xs → ∃ nv F, vs[i]? = some nv ∧ OwnI w lo nv xs F ∧ ∀ b ∈ F, v.ownBlock ≠ some b
theorem OwnP.none (w : World) (lo : Nat) : OwnP w lo (.slice .none 0 0) [] [] := ⟨World.ownsRow_nil w lo _ 1, by simp⟩
theorem OwnP.lit (w : World) (lo : Nat) (hlo : lo ≤ w.heap.size) : OwnP (w.alloc (.cells #[] 23)) lo (.slice (some ⟨w.heap.size, 0, .none⟩) 0 0) [] [] :=
  ⟨World.ownsRow_lit w #[] 0 hlo (by unfold maxLen; omega) rfl, by simp⟩
theorem OwnP.keep {xss : List (List Int)} {vs : List Value} (h : OwnP w lo v xss vs) (hb : ∀ b, lo ≤ b → b < w.heap.size → w2.heap[b]? = w.heap[b]?) : OwnP w2 lo v xss vs :=
  ⟨ownsRow_heap h.row fun b e => by have := h.row.lt b e; exact hb b this.1 this.2, fun i xs hi => by
    obtain ⟨nv, F, h1, h2, h3⟩ := h.at_ i xs hi
    exact ⟨nv, F, h1, h2.keep fun b hx => by have := h2.lt b hx; exact hb b this.1 this.2, h3⟩⟩
theorem OwnP.below {xss : List (List Int)} {vs : List Value} (h : OwnP w lo v xss vs) (hb : Below w.heap.size w w2) : OwnP w2 lo v xss vs := h.keep fun b _ hx => hb.block b hx
theorem OwnP.vlen {xss : List (List Int)} {vs : List Value} (h : OwnP w lo v xss vs) : vs.length = xss.length := by have := h.row.1; omega
theorem OwnP.app {xss : List (List Int)} {vs : List Value} {n : Nat} {nv : Value} {xs : List Int} {F : List Nat} (h : OwnP w lo v xss vs) (hlo : lo ≤ w.heap.size) (hb : Below w.heap.size w w2) (ho : OwnI w2 w.heap.size nv xs F) (hn : n = xss.length + 1)
    (hown : w3.ownsRow lo 23 1 v' n (vs ++ [nv])) (hg : w2.grownBy w3 v.ownBlock) (hat : v'.ownBlock = v.ownBlock ∨ v'.ownBlock = some w2.heap.size) : OwnP w3 lo v' (xss ++ [xs]) (vs ++ [nv]) := by
  have hl := h.vlen
  have hs := hb.size
  refine ⟨by subst hn; simpa using hown, fun i ys hi => ?_⟩
  rcases Nat.lt_or_ge i xss.length with hlt | hge
  · rw [List.getElem?_append_left hlt] at hi
    obtain ⟨nv0, F0, h1, h2, h3⟩ := h.at_ i ys hi
    refine ⟨nv0, F0, by rw [List.getElem?_append_left (by omega)]; exact h1, h2.keep fun b hx => ?_, fun b hx => ?_⟩
    · have hbl := h2.lt b hx
      exact (hg.block b (by omega) (fun e => h3 b hx (by first | exact e | exact e.symm))).trans (hb.block b hbl.2)
    · have hbl := h2.lt b hx
      rcases hat with e | e
      · rw [e]; exact h3 b hx
      · rw [e]; intro hh; injection hh with hh; omega
  · have hi0 : i = xss.length := by
      have := (List.getElem?_eq_some_iff.1 hi).1
      simp at this; omega
    subst hi0
    rw [List.getElem?_append_right (Nat.le_refl _), Nat.sub_self] at hi
    simp only [List.getElem?_cons_zero, Option.some.injEq] at hi
    subst hi
    have hvb : ∀ b ∈ F, v.ownBlock ≠ some b := fun b hx hv => by have := h.row.lt b hv; have := ho.lt b hx; omega
    refine ⟨nv, F, by rw [List.getElem?_append_right (by omega), hl, Nat.sub_self]; rfl, (ho.keep fun b hx => ?_).mono hlo, fun b hx => ?_⟩
    · exact hg.block b (ho.lt b hx).2 (fun e => hvb b hx (by first | exact e | exact e.symm))
    · rcases hat with e | e
      · rw [e]; exact hvb b hx
      · rw [e]; intro hh; injection hh with hh; have := (ho.lt b hx).2; omega

/-- a row of codes that is read -/
structure RdP (w : World) (B : Nat) (A : Option Addr) (n c : Nat) (xss : List (List Int)) : Prop where
  len : xss.length = n
  cap : n ≤ c
  capMax : c ≤ maxLen
  at_ : 0 < n → ∃ b off, A = some ⟨b, off, .none⟩ ∧ b < B ∧ ∀ (i : Nat) xs, xss[i]? = some xs → ∃ Ai ci, w.cell? ⟨b, off + i, .none⟩ = some (.slice Ai xs.length ci) ∧ RdI .i64 w B Ai xs.length ci xs
theorem RdP.below {A : Option Addr} {n c B : Nat} {xss : List (List Int)} (h : RdP w B A n c xss) (hb : Below B w w2) : RdP w2 B A n c xss :=
  ⟨h.len, h.cap, h.capMax, fun hn => by
    obtain ⟨b, off, e, hbl, hc⟩ := h.at_ hn
    refine ⟨b, off, e, hbl, fun i xs hi => ?_⟩
    obtain ⟨Ai, ci, h1, h2⟩ := hc i xs hi
    exact ⟨Ai, ci, (bcells hb b _ hbl).trans h1, h2.below hb⟩⟩
theorem RdP.get {A : Option Addr} {n c B k : Nat} {xss : List (List Int)} (h : RdP w B A n c xss) (hk : k < n) : ∃ b off xs Ai ci, A = some ⟨b, off, .none⟩ ∧ b < B ∧ xss[k]? = some xs ∧ w.cell? ⟨b, off + k, .none⟩ = some (.slice Ai xs.length ci) ∧ RdI .i64 w B Ai xs.length ci xs := by
  obtain ⟨b, off, e, hbl, hc⟩ := h.at_ (by omega)
  have hl : k < xss.length := by rw [h.len]; exact hk
  obtain ⟨Ai, ci, h1, h2⟩ := hc k _ (List.getElem?_eq_getElem hl)
  exact ⟨b, off, _, Ai, ci, e, hbl, List.getElem?_eq_getElem hl, h1, h2⟩
theorem OwnP.rd {xss : List (List Int)} {vs : List Value} (h : OwnP w lo v xss vs) : ∃ A c, v = .slice A xss.length c ∧ RdP w w.heap.size A xss.length c xss := by
  rcases h.row.2 with ⟨rfl, h0⟩ | ⟨g, cap, cur, rfl, hg, hh, h3, h4, h5, h6⟩
  · exact ⟨.none, 0, by rw [h0], rfl, by omega, by unfold maxLen; omega, fun hn => by omega⟩
  · refine ⟨_, _, rfl, rfl, h3, h4, fun _ => ⟨g, 0, rfl, (Array.getElem?_eq_some_iff.1 hh).1, fun i xs hi => ?_⟩⟩
    have hl : i < xss.length := (List.getElem?_eq_some_iff.1 hi).1
    obtain ⟨nv, F, q1, q2, -⟩ := h.at_ i xs hi
    obtain ⟨A, c, rfl, hr⟩ := q2.rd
    refine ⟨A, c, ?_, hr⟩
    have := h.row.cellAt i (by have := h.vlen; omega)
    rw [Nat.zero_add]
    exact this.trans q1

/-- a row of deeds of the call's own that grows: F its blocks, each once, and none of them T -/
structure PushDs (w : World) (lo T : Nat) (v : Value) (ds : List DeedD) (cells : List Value) (Fs : List (List Nat)) : Prop where
  own : OwnDs w lo v ds (v.ownBlock.toList ++ Fs.flatten) cells Fs
  nodup : (v.ownBlock.toList ++ Fs.flatten).Nodup
  apart : T ∉ v.ownBlock.toList ++ Fs.flatten
theorem PushDs.none (w : World) (lo T : Nat) : PushDs w lo T (.slice .none 0 0) [] [] [] :=
  ⟨⟨World.ownsRow_nil w lo _ 4, by simp, rfl, rfl, by simp⟩, by simp [Value.ownBlock], by simp [Value.ownBlock]⟩
theorem PushDs.lit (w : World) (lo T : Nat) (hlo : lo ≤ w.heap.size) (hT : T ≠ w.heap.size) : PushDs (w.alloc (.cells #[] 85)) lo T (.slice (some ⟨w.heap.size, 0, .none⟩) 0 0) [] [] [] :=
  ⟨⟨World.ownsRow_lit w #[] 0 hlo (by unfold maxLen; omega) rfl, by simp, rfl, rfl, by simp⟩, by simp [Value.ownBlock], by simp [Value.ownBlock, hT]⟩
section
variable {T : Nat} {ds : List DeedD} {cells : List Value} {Fs : List (List Nat)}
theorem PushDs.below (h : PushDs w lo T v ds cells Fs) (hb : Below w.heap.size w w2) : PushDs w2 lo T v ds cells Fs := ⟨h.own.below hb, h.nodup, h.apart⟩
theorem PushDs.only (h : PushDs w lo T v ds cells Fs) (hb : Only [T] w w2) : PushDs w2 lo T v ds cells Fs :=
  ⟨h.own.keep fun b hx => hb.block b (h.own.lt b hx).2 (by simp only [List.mem_singleton]; rintro rfl; exact h.apart hx), h.nodup, h.apart⟩
theorem PushDs.app {n : Nat} {nv : Value} {d : DeedD} {F : List Nat} (h : PushDs w lo T v ds cells Fs) (hlo : lo ≤ w.heap.size) (hT : T < w.heap.size) (hb : Below w.heap.size w w2) (ho : OwnI w2 w.heap.size nv d.need F) (hs : d.need.length ≤ 1048576)
    (hwf : (Lit.int .i64 d.on).wf = true ∧ (Lit.int .i64 d.off).wf = true ∧ (Lit.int .i64 d.flip).wf = true) (hsm : ds.length + 1 ≤ 1048576) (hn : n = ds.length + 1)
    (hown : w3.ownsRow lo 85 4 v' n (cells ++ [nv, .int .i64 d.on, .int .i64 d.off, .int .i64 d.flip])) (hg : w2.grownBy w3 v.ownBlock) (hat : v'.ownBlock = v.ownBlock ∨ v'.ownBlock = some w2.heap.size) :
    PushDs w3 lo T v' (ds ++ [d]) (cells ++ [nv, .int .i64 d.on, .int .i64 d.off, .int .i64 d.flip]) (Fs ++ [F]) := by
  have hsz := hb.size
  have hcl : cells.length = ds.length * 4 := h.own.row.1
  have hfl := h.own.flen
  have hlt := h.own.lt
  have hnd := h.nodup
  have hap := h.apart
  have hold : ∀ b ∈ Fs.flatten, w3.heap[b]? = w.heap[b]? := fun b hx => by
    have hbl := hlt b (List.mem_append_right _ hx)
    have hne : v.ownBlock ≠ some b := fun e => by
      rw [e, List.nodup_append] at hnd
      exact hnd.2.2 b (by simp) b hx rfl
    exact (hg.block b (by omega) (fun e => hne (by first | exact e | exact e.symm))).trans (hb.block b hbl.2)
  have hnewb : ∀ b ∈ F, w3.heap[b]? = w2.heap[b]? := fun b hx => by
    have hbl := ho.lt b hx
    refine hg.block b hbl.2 (fun e => ?_)
    have hv : v.ownBlock = some b := by first | exact e | exact e.symm
    have := (hlt b (by rw [hv]; simp)).2
    omega
  have hvl : ∀ b ∈ v'.ownBlock.toList, b ∉ Fs.flatten ∧ b ∉ F ∧ b ≠ T := fun b hx => by
    have hx : v'.ownBlock = some b := by simpa using hx
    rcases hat with e | e
    · have hv : v.ownBlock = some b := by rw [← e]; exact hx
      rw [hv] at hap
      rw [hv, List.nodup_append] at hnd
      refine ⟨fun hh => hnd.2.2 b (by simp) b hh rfl, fun hh => ?_, fun hh => ?_⟩
      · have := (hlt b (by rw [hv]; simp)).2; have := (ho.lt b hh).1; omega
      · exact hap (by simp [hh])
    · have hv : b = w2.heap.size := by rw [e] at hx; injection hx with hx; exact hx.symm
      refine ⟨fun hh => ?_, fun hh => ?_, by omega⟩
      · have := (hlt b (List.mem_append_right _ hh)).2; omega
      · have := (ho.lt b hh).2; omega
  refine ⟨⟨by subst hn; simpa using hown, by simpa using hsm, by simp [hfl], rfl, fun i e Fi he hF => ?_⟩, ?_, ?_⟩
  · rcases Nat.lt_or_ge i ds.length with hi | hi
    · rw [List.getElem?_append_left (by omega)] at hF
      rw [List.getElem?_append_left hi] at he
      obtain ⟨nv', q0, q1, q2, q3, q4, r⟩ := h.own.deed i e Fi he hF
      refine ⟨nv', ?_, ?_, ?_, ?_, q4.keep fun b hx => hold b (mem_flat hF hx), r⟩
      · rw [List.getElem?_append_left (by omega)]; exact q0
      · rw [List.getElem?_append_left (by omega)]; exact q1
      · rw [List.getElem?_append_left (by omega)]; exact q2
      · rw [List.getElem?_append_left (by omega)]; exact q3
    · have hik : i = ds.length := by
        have := (List.getElem?_eq_some_iff.1 he).1
        simp at this; omega
      subst hik
      rw [List.getElem?_append_right (Nat.le_refl _), Nat.sub_self] at he
      simp only [List.getElem?_cons_zero, Option.some.injEq] at he
      subst he
      rw [List.getElem?_append_right (by omega), hfl, Nat.sub_self] at hF
      simp only [List.getElem?_cons_zero, Option.some.injEq] at hF
      subst hF
      refine ⟨nv, ?_, ?_, ?_, ?_, (ho.keep hnewb).mono hlo, hs, hwf⟩
      · rw [List.getElem?_append_right (by omega), show ds.length * 4 - cells.length = 0 by omega]; rfl
      · rw [List.getElem?_append_right (by omega), show ds.length * 4 + 1 - cells.length = 1 by omega]; rfl
      · rw [List.getElem?_append_right (by omega), show ds.length * 4 + 2 - cells.length = 2 by omega]; rfl
      · rw [List.getElem?_append_right (by omega), show ds.length * 4 + 3 - cells.length = 3 by omega]; rfl
  · rw [List.flatten_append, List.nodup_append]
    refine ⟨by cases v'.ownBlock <;> simp, ?_, fun a ha b hb' => ?_⟩
    · rw [List.nodup_append]
      refine ⟨(List.nodup_append.1 hnd).2.1, by simpa using ho.nodup, fun a ha b hb' => ?_⟩
      have h1 := (hlt a (List.mem_append_right _ ha)).2
      have h3 := (ho.lt b (by simpa using hb')).1
      omega
    · rcases List.mem_append.1 hb' with hb' | hb'
      · rintro rfl; exact (hvl a ha).1 hb'
      · rintro rfl; exact (hvl a ha).2.1 (by simpa using hb')
  · rw [List.flatten_append, List.mem_append, List.mem_append]
    rintro (hx | hx | hx)
    · exact (hvl T hx).2.2 rfl
    · exact hap (List.mem_append_right _ hx)
    · have := (ho.lt T (by simpa using hx)).1; omega
end
end
end Go.Proofs.YtkimgdfcgfhibaaDoor

/- Codes with facts turned round: codeTurned of the program, l9Turned of the reference: one plain function. Condition: the steps are such (0..9), and the facts a state (0..31). -/
namespace Go.Proofs.YtkimgdfcgfhibaaDoor
open Go.ChangeShapes Go.WideShapes Go.ChangeAt Go.RowKit

def turnOne (f : Nat) (x : Int) : List Int := if x < 5 ∧ bit f x.toNat = 1 then [x, 7] else [x]
def turnI (f : Nat) (xs : List Int) : List Int := xs.flatMap (turnOne f)
end Go.Proofs.YtkimgdfcgfhibaaDoor

/- Plain law: a task with some facts turned round; small words on memory. -/
namespace Go.Proofs.YtkimgdfcgfhibaaDoor
open Go.ChangeShapes Go.WideShapes Go.ChangeAt Go.RowKit

def turnOn (f a b : Nat) : Nat := a - (a &&& f) + (b &&& f)
def turnD (f : Nat) (d : DeedD) : DeedD := ⟨turnI f d.need, (turnOn f d.on.toNat d.off.toNat : Nat), (turnOn f d.off.toNat d.on.toNat : Nat), d.flip⟩
def turnT (f : Nat) (t : TaskD) : TaskD := ⟨((t.start.toNat ^^^ f : Nat) : Int), turnI f t.goal, t.deeds.map (turnD f)⟩
def turnOk (t : TaskD) (f : Int) : Bool := taskOk t && stIn f && taskOk (turnT f.toNat t)
def taskTurned (t : TaskD) (f : Int) : TaskD := if turnOk t f = true then turnT f.toNat t else ⟨0, [], []⟩
theorem OwnT.zero (w : World) (lo : Nat) : OwnT w lo (.agg #[.int .i64 0, .slice none 0 0, .slice none 0 0]) ⟨0, [], []⟩ [] :=
  ⟨_, _, [], [], [], [], rfl, OwnI.none w lo, by simp, ⟨World.ownsRow_nil w lo _ 4, by simp, rfl, by simp [Value.ownBlock], by simp⟩, rfl, rfl⟩
end Go.Proofs.YtkimgdfcgfhibaaDoor
