/- Joined texts: App, Told, Turn, TTask. -/
import Derived.Test.YtkmcengmglgdeaaGreatDoorSOwn
import Derived.Deep.RegionLaw
import Derived.Deep.RegionHeld3
import Derived.Deep.DeepCutAuto
/- Append in a region that draws its order; rows of codes of the call's own (OwnP); rows of deeds that grow by append (PushDs). -/
namespace Go.Proofs.YtkmcengmglgdeaaGreatDoor
open Go.ChangeShapes Go.WideShapes Go.ChangeAt Go.RowKit

/-- 'append(s, x...)', s a row of the call's own, as one step of a region that draws -/
theorem step_app {P : Program} {t e : TypeId} {z : Value} {size bytes : Nat} (E : ElemT P t e z size bytes) {w : World} {ops : Array Oper} {o : Oper} {a : Act} {K : Act → World → Prop} {Q : Exit → Act → World → Prop} {G : Prop} (hgd : o.guard = none) (s x : Operand)
  (ho : o.op = .call { callee := .builtin .append, args := #[s, x], argTypes := #[t, t] })
  (base : Nat) (v : Value) (n : Nat) (xs : List Value) (hs : a.eval s = v) (hown : w.ownsRow base e size v n xs)
  (B : Nat) (A : Option Addr) (m c : Nat) (news : List Value) (hx : a.eval x = .slice A m c) (hr : RdRow w B size A m c news) (hm : 0 < m) (h1 : ∀ u ∈ news, u.oneCell' = true)
  (hbytes : (n + m) * bytes ≤ 140737488355328) (h63 : n + m ≤ 140737488355328) (hbase : base ≤ w.heap.size)
  (h : ∀ v' w', w'.ownsRow base e size v' (n + m) (xs ++ news) → w.grownBy w' v.ownBlock → (v'.ownBlock = v.ownBlock ∨ v'.ownBlock = some w.heap.size) → K (a.put o.dst v') w') :
  if Region.wanted o (yielded ops a.tmps) = true then Oper.wp P o a w K Q else G := by
 obtain ⟨i, hi, hz, hsize, hby⟩ := E.hi
 obtain ⟨b, off, rfl, hb, hc⟩ := hr.at_ hm
 have hw : Region.wanted o (yielded ops a.tmps) = true := by simp [Region.wanted, hgd]
 rw [if_pos hw]
 obtain ⟨v', w', hrun, h2, h3, h4, h5⟩ := run_append_own_at (P := P) w base t o.type e i z size bytes E.ht hi hz hsize hby E.hzs E.hsz v n xs hown ⟨b, off, none⟩ m c news hr.len (fun j u hu => by rw [Addr.add_lit]; exact hc j u hu) h1 (by unfold maxLen; omega) hbytes hbase
 unfold Oper.wp execOp
 simp only [ho, resolve, invoke, builtin, Sem.run_bind, Sem.run_pure, Result.andThen_ok, List.map_toArray, List.map_cons, List.map_nil, hs, hx, hrun]
 exact h v' w' h2 h3 h5

theorem RdRow.newAt (w : World) (cs : List Value) (t : TypeId) (size n g : Nat) (hg : g = w.heap.size) (hl : cs.length = n * size) (hn : n ≤ maxLen) : RdRow (w.alloc (.cells cs.toArray t)) (g + 1) size (some ⟨g, 0, none⟩) n n cs := by
 subst hg; exact RdRow.new w cs t size n hl hn
section
variable {w w2 w3 : World} {lo : Nat} {v v' : Value}
theorem OwnI.lit (w : World) (lo : Nat) (xs : List Int) (hlo : lo ≤ w.heap.size) (hn : xs.length ≤ maxLen) (hwf : ∀ x ∈ xs, (Lit.int .i64 x).wf = true) :
  OwnI (w.alloc (.cells (ints xs).toArray 3)) lo (.slice (some ⟨w.heap.size, 0, none⟩) xs.length xs.length) xs [w.heap.size] :=
 ⟨World.ownsRow_lit w (ints xs).toArray xs.length hlo hn (by simp [ints]), hwf, rfl⟩
theorem OwnI.none (w : World) (lo : Nat) : OwnI w lo (.slice .none 0 0) [] [] := ⟨World.ownsRow_nil w lo _ 1, by simp, rfl⟩
/-- a row of codes of its own: each code in a block that is not the row's -/
structure OwnP (w : World) (lo : Nat) (v : Value) (xss : List (List Int)) (vs : List Value) : Prop where
 row : w.ownsRow lo 23 1 v xss.length vs
 at_ : ∀ (i : Nat) xs, xss[i]? = some xs → ∃ nv F, vs[i]? = some nv ∧ OwnI w lo nv xs F ∧ ∀ b ∈ F, v.ownBlock ≠ some b
theorem OwnP.none (w : World) (lo : Nat) : OwnP w lo (.slice .none 0 0) [] [] := ⟨World.ownsRow_nil w lo _ 1, by simp⟩
theorem OwnP.lit (w : World) (lo : Nat) (hlo : lo ≤ w.heap.size) : OwnP (w.alloc (.cells #[] 23)) lo (.slice (some ⟨w.heap.size, 0, .none⟩) 0 0) [] [] :=
 ⟨World.ownsRow_lit w #[] 0 hlo (by unfold maxLen; omega) rfl, by simp⟩
theorem OwnP.vlen {xss : List (List Int)} {vs : List Value} (h : OwnP w lo v xss vs) : vs.length = xss.length := by have := h.row.1; omega
theorem OwnP.app {xss : List (List Int)} {vs : List Value} {n : Nat} {nv : Value} {xs : List Int} {F : List Nat} (h : OwnP w lo v xss vs) (hlo : lo ≤ w.heap.size) (hb : Below w.heap.size w w2) (ho : OwnI w2 w.heap.size nv xs F) (hn : n = xss.length + 1)
  (hown : w3.ownsRow lo 23 1 v' n (vs ++ [nv])) (hg : w2.grownBy w3 v.ownBlock) (hat : v'.ownBlock = v.ownBlock ∨ v'.ownBlock = some w2.heap.size) : OwnP w3 lo v' (xss ++ [xs]) (vs ++ [nv]) := by
 have hl := h.vlen
 have hs := hb.size
 refine ⟨by subst hn; simpa using hown, fun i ys hi => ?_⟩
 rcases Nat.lt_or_ge i xss.length with hlt | hge
 ·rw [List.getElem?_append_left hlt] at hi
  obtain ⟨nv0, F0, h1, h2, h3⟩ := h.at_ i ys hi
  refine ⟨nv0, F0, by rw [List.getElem?_append_left (by omega)]; exact h1, h2.keep fun b hx => ?_, fun b hx => ?_⟩
  ·have hbl := h2.lt b hx
   exact (hg.block b (by omega) (fun e => h3 b hx (by first | exact e | exact e.symm))).trans (hb.block b hbl.2)
  ·have hbl := h2.lt b hx
   rcases hat with e | e
   ·rw [e]; exact h3 b hx
   ·rw [e]; intro hh; injection hh with hh; omega
 ·have hi0 : i = xss.length := by
   have := (List.getElem?_eq_some_iff.1 hi).1
   simp at this; omega
  subst hi0
  rw [List.getElem?_append_right (Nat.le_refl _), Nat.sub_self] at hi
  simp only [List.getElem?_cons_zero, Option.some.injEq] at hi
  subst hi
  have hvb : ∀ b ∈ F, v.ownBlock ≠ some b := fun b hx hv => by have := h.row.lt b hv; have := ho.lt b hx; omega
  refine ⟨nv, F, by rw [List.getElem?_append_right (by omega), hl, Nat.sub_self]; rfl, (ho.keep fun b hx => ?_).mono hlo, fun b hx => ?_⟩
  ·exact hg.block b (ho.lt b hx).2 (fun e => hvb b hx (by first | exact e | exact e.symm))
  ·rcases hat with e | e
   ·rw [e]; exact hvb b hx
   ·rw [e]; intro hh; injection hh with hh; have := (ho.lt b hx).2; omega

/-- a row of codes that is read -/
structure RdP (w : World) (B : Nat) (A : Option Addr) (n c : Nat) (xss : List (List Int)) : Prop where
 len : xss.length = n
 cap : n ≤ c
 capMax : c ≤ maxLen
 at_ : 0 < n → ∃ b off, A = some ⟨b, off, .none⟩ ∧ b < B ∧ ∀ (i : Nat) xs, xss[i]? = some xs → ∃ Ai ci, w.cell? ⟨b, off + i, .none⟩ = some (.slice Ai xs.length ci) ∧ RdI .i64 w B Ai xs.length ci xs
theorem RdP.below {A : Option Addr} {n c B : Nat} {xss : List (List Int)} (h : RdP w B A n c xss) (hb : Below B w w2) : RdP w2 B A n c xss :=
 ⟨h.len, h.cap, h.capMax, fun hn => by
  obtain ⟨b, off, e, hbl, hc⟩ := h.at_ hn
  refine ⟨b, off, e, hbl, fun i xs hi => ?_⟩
  obtain ⟨Ai, ci, h1, h2⟩ := hc i xs hi
  exact ⟨Ai, ci, (bcells hb b _ hbl).trans h1, h2.below hb⟩⟩
theorem RdP.get {A : Option Addr} {n c B k : Nat} {xss : List (List Int)} (h : RdP w B A n c xss) (hk : k < n) : ∃ b off xs Ai ci, A = some ⟨b, off, .none⟩ ∧ b < B ∧ xss[k]? = some xs ∧ w.cell? ⟨b, off + k, .none⟩ = some (.slice Ai xs.length ci) ∧ RdI .i64 w B Ai xs.length ci xs := by
 obtain ⟨b, off, e, hbl, hc⟩ := h.at_ (by omega)
 have hl : k < xss.length := by rw [h.len]; exact hk
 obtain ⟨Ai, ci, h1, h2⟩ := hc k _ (List.getElem?_eq_getElem hl)
 exact ⟨b, off, _, Ai, ci, e, hbl, List.getElem?_eq_getElem hl, h1, h2⟩
theorem OwnP.rd {xss : List (List Int)} {vs : List Value} (h : OwnP w lo v xss vs) : ∃ A c, v = .slice A xss.length c ∧ RdP w w.heap.size A xss.length c xss := by
 rcases h.row.2 with ⟨rfl, h0⟩ | ⟨g, cap, cur, rfl, hg, hh, h3, h4, h5, h6⟩
 ·exact ⟨.none, 0, by rw [h0], rfl, by omega, by unfold maxLen; omega, fun hn => by omega⟩
 ·refine ⟨_, _, rfl, rfl, h3, h4, fun _ => ⟨g, 0, rfl, (Array.getElem?_eq_some_iff.1 hh).1, fun i xs hi => ?_⟩⟩
  have hl : i < xss.length := (List.getElem?_eq_some_iff.1 hi).1
  obtain ⟨nv, F, q1, q2, -⟩ := h.at_ i xs hi
  obtain ⟨A, c, rfl, hr⟩ := q2.rd
  refine ⟨A, c, ?_, hr⟩
  have := h.row.cellAt i (by have := h.vlen; omega)
  rw [Nat.zero_add]
  exact this.trans q1

/-- a row of deeds of the call's own that grows: F its blocks, each once, and none of them T -/
structure PushDs (w : World) (lo T : Nat) (v : Value) (ds : List DeedD) (cells : List Value) (Fs : List (List Nat)) : Prop where
 own : OwnDs w lo v ds (v.ownBlock.toList ++ Fs.flatten) cells Fs
 nodup : (v.ownBlock.toList ++ Fs.flatten).Nodup
 apart : T ∉ v.ownBlock.toList ++ Fs.flatten
theorem PushDs.none (w : World) (lo T : Nat) : PushDs w lo T (.slice .none 0 0) [] [] [] :=
 ⟨⟨World.ownsRow_nil w lo _ 4, by simp, rfl, rfl, by simp⟩, by simp [Value.ownBlock], by simp [Value.ownBlock]⟩
theorem PushDs.lit (w : World) (lo T : Nat) (hlo : lo ≤ w.heap.size) (hT : T ≠ w.heap.size) : PushDs (w.alloc (.cells #[] 144)) lo T (.slice (some ⟨w.heap.size, 0, .none⟩) 0 0) [] [] [] :=
 ⟨⟨World.ownsRow_lit w #[] 0 hlo (by unfold maxLen; omega) rfl, by simp, rfl, rfl, by simp⟩, by simp [Value.ownBlock], by simp [Value.ownBlock, hT]⟩
section
variable {T : Nat} {ds : List DeedD} {cells : List Value} {Fs : List (List Nat)}
theorem PushDs.below (h : PushDs w lo T v ds cells Fs) (hb : Below w.heap.size w w2) : PushDs w2 lo T v ds cells Fs := ⟨h.own.below hb, h.nodup, h.apart⟩
theorem PushDs.only (h : PushDs w lo T v ds cells Fs) (hb : Only [T] w w2) : PushDs w2 lo T v ds cells Fs :=
 ⟨h.own.keep fun b hx => hb.block b (h.own.lt b hx).2 (by simp only [List.mem_singleton]; rintro rfl; exact h.apart hx), h.nodup, h.apart⟩
theorem PushDs.ne (h : PushDs w lo T v ds cells Fs) : v.ownBlock ≠ some T := fun e => h.apart (by rw [e]; simp)
theorem PushDs.app {n : Nat} {nv : Value} {d : DeedD} {F : List Nat} (h : PushDs w lo T v ds cells Fs) (hlo : lo ≤ w.heap.size) (hT : T < w.heap.size) (hb : Below w.heap.size w w2) (ho : OwnI w2 w.heap.size nv d.need F) (hs : d.need.length ≤ 1048576)
  (hwf : (Lit.int .i64 d.on).wf = true ∧ (Lit.int .i64 d.off).wf = true ∧ (Lit.int .i64 d.flip).wf = true) (hsm : ds.length + 1 ≤ 1048576) (hn : n = ds.length + 1)
  (hown : w3.ownsRow lo 144 4 v' n (cells ++ [nv, .int .i64 d.on, .int .i64 d.off, .int .i64 d.flip])) (hg : w2.grownBy w3 v.ownBlock) (hat : v'.ownBlock = v.ownBlock ∨ v'.ownBlock = some w2.heap.size) :
  PushDs w3 lo T v' (ds ++ [d]) (cells ++ [nv, .int .i64 d.on, .int .i64 d.off, .int .i64 d.flip]) (Fs ++ [F]) := by
 have hsz := hb.size
 have hcl : cells.length = ds.length * 4 := h.own.row.1
 have hfl := h.own.flen
 have hlt := h.own.lt
 have hnd := h.nodup
 have hap := h.apart
 have hold : ∀ b ∈ Fs.flatten, w3.heap[b]? = w.heap[b]? := fun b hx => by
  have hbl := hlt b (List.mem_append_right _ hx)
  have hne : v.ownBlock ≠ some b := fun e => by
   rw [e, List.nodup_append] at hnd
   exact hnd.2.2 b (by simp) b hx rfl
  exact (hg.block b (by omega) (fun e => hne (by first | exact e | exact e.symm))).trans (hb.block b hbl.2)
 have hnewb : ∀ b ∈ F, w3.heap[b]? = w2.heap[b]? := fun b hx => by
  have hbl := ho.lt b hx
  refine hg.block b hbl.2 (fun e => ?_)
  have hv : v.ownBlock = some b := by first | exact e | exact e.symm
  have := (hlt b (by rw [hv]; simp)).2
  omega
 have hvl : ∀ b ∈ v'.ownBlock.toList, b ∉ Fs.flatten ∧ b ∉ F ∧ b ≠ T := fun b hx => by
  have hx : v'.ownBlock = some b := by simpa using hx
  rcases hat with e | e
  ·have hv : v.ownBlock = some b := by rw [← e]; exact hx
   rw [hv] at hap
   rw [hv, List.nodup_append] at hnd
   refine ⟨fun hh => hnd.2.2 b (by simp) b hh rfl, fun hh => ?_, fun hh => ?_⟩
   ·have := (hlt b (by rw [hv]; simp)).2; have := (ho.lt b hh).1; omega
   ·exact hap (by simp [hh])
  ·have hv : b = w2.heap.size := by rw [e] at hx; injection hx with hx; exact hx.symm
   refine ⟨fun hh => ?_, fun hh => ?_, by omega⟩
   ·have := (hlt b (List.mem_append_right _ hh)).2; omega
   ·have := (ho.lt b hh).2; omega
 refine ⟨⟨by subst hn; simpa using hown, by simpa using hsm, by simp [hfl], rfl, fun i e Fi he hF => ?_⟩, ?_, ?_⟩
 ·rcases Nat.lt_or_ge i ds.length with hi | hi
  ·rw [List.getElem?_append_left (by omega)] at hF
   rw [List.getElem?_append_left hi] at he
   obtain ⟨nv', q0, q1, q2, q3, q4, r⟩ := h.own.deed i e Fi he hF
   refine ⟨nv', ?_, ?_, ?_, ?_, q4.keep fun b hx => hold b (mem_flat hF hx), r⟩
   ·rw [List.getElem?_append_left (by omega)]; exact q0
   ·rw [List.getElem?_append_left (by omega)]; exact q1
   ·rw [List.getElem?_append_left (by omega)]; exact q2
   ·rw [List.getElem?_append_left (by omega)]; exact q3
  ·have hik : i = ds.length := by
    have := (List.getElem?_eq_some_iff.1 he).1
    simp at this; omega
   subst hik
   rw [List.getElem?_append_right (Nat.le_refl _), Nat.sub_self] at he
   simp only [List.getElem?_cons_zero, Option.some.injEq] at he
   subst he
   rw [List.getElem?_append_right (by omega), hfl, Nat.sub_self] at hF
   simp only [List.getElem?_cons_zero, Option.some.injEq] at hF
   subst hF
   refine ⟨nv, ?_, ?_, ?_, ?_, (ho.keep hnewb).mono hlo, hs, hwf⟩
   ·rw [List.getElem?_append_right (by omega), show ds.length * 4 - cells.length = 0 by omega]; rfl
   ·rw [List.getElem?_append_right (by omega), show ds.length * 4 + 1 - cells.length = 1 by omega]; rfl
   ·rw [List.getElem?_append_right (by omega), show ds.length * 4 + 2 - cells.length = 2 by omega]; rfl
   ·rw [List.getElem?_append_right (by omega), show ds.length * 4 + 3 - cells.length = 3 by omega]; rfl
 ·rw [List.flatten_append, List.nodup_append]
  refine ⟨by cases v'.ownBlock <;> simp, ?_, fun a ha b hb' => ?_⟩
  ·rw [List.nodup_append]
   refine ⟨(List.nodup_append.1 hnd).2.1, by simpa using ho.nodup, fun a ha b hb' => ?_⟩
   have h1 := (hlt a (List.mem_append_right _ ha)).2
   have h3 := (ho.lt b (by simpa using hb')).1
   omega
  ·rcases List.mem_append.1 hb' with hb' | hb'
   ·rintro rfl; exact (hvl a ha).1 hb'
   ·rintro rfl; exact (hvl a ha).2.1 (by simpa using hb')
 ·rw [List.flatten_append, List.mem_append, List.mem_append]
  rintro (hx | hx | hx)
  ·exact (hvl T hx).2.2 rfl
  ·exact hap (List.mem_append_right _ hx)
  ·have := (ho.lt T (by simpa using hx)).1; omega
end
end
end Go.Proofs.YtkmcengmglgdeaaGreatDoor

/- Codes put together of parts: l9All, l9None of the reference, noneHolds of the program. -/
namespace Go.Proofs.YtkmcengmglgdeaaGreatDoor
open Go.ChangeShapes Go.WideShapes Go.ChangeAt Go.RowKit

def codeAll : List (List Int) → List Int
 | [] => [5]
 | x :: r => r.foldl (fun a y => a ++ y ++ [8]) x
theorem codeAll_snoc (xss : List (List Int)) (h : xss ≠ []) (y : List Int) : codeAll (xss ++ [y]) = codeAll xss ++ y ++ [8] := by
 cases xss with
 | nil => exact absurd rfl h
 | cons x r => simp [codeAll, List.foldl_append]
theorem codeAll_take (xss : List (List Int)) (k : Nat) (h : 1 ≤ k) (y : List Int) (hy : xss[k]? = some y) : codeAll (xss.take (k + 1)) = codeAll (xss.take k) ++ y ++ [8] := by
 obtain ⟨h1, h2⟩ := List.getElem?_eq_some_iff.1 hy
 rw [List.take_succ_eq_append_getElem h1, h2]
 refine codeAll_snoc _ ?_ _
 intro e
 have := congrArg List.length e
 rw [List.length_take, List.length_nil] at this
 omega
def nonePart (k : Nat) : List Int := [(k : Int), 7]
def noneParts (m : Nat) : List (List Int) := (List.range m).map nonePart
theorem noneParts_succ (m : Nat) : noneParts (m + 1) = noneParts m ++ [nonePart m] := by simp [noneParts, List.range_succ]
theorem noneParts_len (m : Nat) : (noneParts m).length = m := by simp [noneParts]
def noneI : Nat → List Int
 | 0 => []
 | m + 1 => if m = 0 then [0, 7] else noneI m ++ [(m : Int), 7] ++ [8]
theorem l9All_any (A : Option Addr) (n c : Nat) (xss : List (List Int)) (w : World) (h : RdP w w.heap.size A n c xss) (hs : ∀ xs ∈ xss, xs.length ≤ 64) (hn : n ≤ 1024) :
  Calls Tryz.prog 156 #[.slice A n c] w fun e w' => (∃ v F, e = .returned v ∧ OwnI w' w.heap.size v (codeAll xss) F ∧ (codeAll xss).length ≤ 65 * n + 1) ∧ Below w.heap.size w w' := by
 have hl := h.len
 have hcp := h.cap
 have hcm := h.capMax
 unfold maxLen at hcm
 have HL := Lib.hid hl; clear hl
 by_cases h0 : n = 0
 ·subst h0
  have hx : xss = [] := List.eq_nil_of_length_eq_zero HL.out
  subst hx
  have HO := Lib.hid (OwnI.lit w w.heap.size [5] (Nat.le_refl _) (by unfold maxLen; simp) (by simp; rfl))
  go_enter Tryz.func156, Tryz.ntmps156
  go_wp2
  go_ret
  exact ⟨⟨_, _, rfl, HO.out, by simp [codeAll]⟩, (Below.refl _ _).alloc (Nat.le_refl _) _⟩
 ·have hz : ((n : Int) == 0) = false := by simp; omega
  obtain ⟨b, off, x0, A0, c0, rfl, hb, hx0, hc0, hr0⟩ := h.get (show 0 < n by omega)
  have hc0' : w.cell? ⟨b, off, none⟩ = some (.slice A0 x0.length c0) := by simpa using hc0
  have hr0' : RdI .i64 (w.alloc (.cells #[] 3)) w.heap.size A0 x0.length c0 x0 := hr0.below ((Below.refl _ _).alloc (Nat.le_refl _) _)
  have hsx := hs x0 (List.mem_of_getElem? hx0)
  have hol : (w.alloc (.cells #[] 3)).ownsRow w.heap.size 3 1 (.slice (some ⟨w.heap.size, 0, none⟩) 0 0) 0 [] := World.ownsRow_lit w #[] 0 (Nat.le_refl _) (by unfold maxLen; omega) rfl
  have HX0 : Hid (xss.take 1 = [x0]) := Lib.hid (by cases xss with
   | nil => simp at hx0
   | cons y r => simp at hx0; subst hx0; simp)
  clear hc0 hx0
  go_enter Tryz.func156, Tryz.ntmps156
  go_wp2_with (at_builtin; refine wp_app elInt rfl _ _ rfl w.heap.size _ 0 [] rfl hol w.heap.size A0 x0.length c0 (ints x0) rfl hr0'.row (ints_cell _) (by omega) (by omega) (by simp) ?_; intro v2 w2 hown2 hg2 hat2)
  have hb2 : Below w.heap.size w w2 := ((Below.refl _ _).alloc (Nat.le_refl _) (.cells #[] 3)).grown hg2 (by simp) (fun k hk => by have := (hol.lt k hk).1; omega)
  have ho2 : OwnI w2 w.heap.size v2 (codeAll (xss.take 1)) v2.ownBlock.toList := by
   rw [HX0.out]
   exact ⟨by simpa [codeAll] using hown2, hr0.wf, rfl⟩
  have hl2 : (codeAll (xss.take 1)).length ≤ 65 * 1 + 1 := by rw [HX0.out]; simp [codeAll]; omega
  have HO2 := Lib.hid ho2
  have HL2 := Lib.hid hl2
  have HB2 := Lib.hid hb2
  clear hown2 hg2 hat2 hol hr0' hr0 ho2 hl2 hb2
  go_wp2
  go_loopw [4, 3] (fun i v wr => ∃ (k : Nat) (F : List Nat), 1 ≤ k ∧ k ≤ n ∧ i = .int .i64 k ∧ OwnI wr w.heap.size v (codeAll (xss.take k)) F ∧ (codeAll (xss.take k)).length ≤ 65 * k + 1 ∧ Below w.heap.size w wr) (fun i _ _ => n - (intOf i).toNat)
  case atStart => exact ⟨1, _, by omega, by omega, rfl, HO2.out, HL2.out, HB2.out⟩
  case round =>
   obtain ⟨k, F, hk1, hk, rfl, ho, hlen, hbel⟩ := hrel
   by_cases hlt : k < n
   ·obtain ⟨b', off', x, Ai, ci, e, hb', hx, hcx, hrx⟩ := h.get hlt
    simp only [Option.some.injEq, Addr.mk.injEq] at e
    obtain ⟨rfl, rfl, -⟩ := e
    have hcr : wr.cell? ⟨b, off + k, none⟩ = some (.slice Ai x.length ci) := (bcells hbel b _ hb').trans hcx
    have hrr := hrx.below hbel
    have hsx' := hs x (List.mem_of_getElem? hx)
    have HC := Lib.hid (codeAll_take xss k hk1 x hx)
    have hsz := hbel.size
    clear hcx hx
    go_wp2_with (first
     | (at_builtin; refine wp_app elInt rfl (.tmp 20) (.tmp 24) rfl w.heap.size _ _ _ rfl ho.row w.heap.size Ai x.length ci (ints x) rfl hrr.row (ints_cell _) (by omega) (by omega) (by omega) ?_; intro v3 w3 hown3 hg3 hat3)
     | (at_builtin; refine wp_app elInt rfl (.tmp 25) (.tmp 26) rfl w.heap.size v3 _ _ rfl (hown3.alloc _) _ _ 1 1 [.int .i64 8] rfl (RdRow.new w3 [.int .i64 8] 3 1 1 rfl (by unfold maxLen; omega)) (by simp [Value.oneCell']) (by omega) (by omega) (by have := hg3.size; simp; omega) ?_; intro v4 w4 hown4 hg4 hat4))
    have hs3 := hg3.size
    have hb3 : Below w.heap.size w w3 := hbel.grown hg3 hsz (fun j hj => by have := (ho.row.lt j hj).1; omega)
    have hb4 : Below w.heap.size w w4 := (hb3.alloc (by omega) _).grown hg4 (by simp; omega) (fun j hj => by have := (hown3.lt j hj).1; omega)
    have ho4 : OwnI w4 w.heap.size v4 (codeAll (xss.take (k + 1))) v4.ownBlock.toList := by
     rw [HC.out]
     refine ⟨?_, ?_, rfl⟩
     ·simp only [List.length_append, List.length_cons, List.length_nil, ints_append] at hown4 ⊢
      exact hown4
     ·intro z hz
      rcases List.mem_append.1 hz with hz | hz
      ·rcases List.mem_append.1 hz with hz | hz
       ·exact ho.wf z hz
       ·exact hrx.wf z hz
      ·simp at hz; subst hz; rfl
    go_wp2
    go_roundw
    case rel =>
     refine ⟨k + 1, _, by omega, by omega, by go_num, ho4, ?_, hb4⟩
     rw [HC.out]; simp; omega
    case measure => simp [intOf]; omega
   ·have hkn : k = n := by omega
    subst hkn
    have HT : Hid (xss.take k = xss) := Lib.hid (by rw [← HL.out, List.take_length])
    go_wp2
    go_ret
    rw [HT.out] at ho hlen
    exact ⟨⟨_, _, rfl, ho, hlen⟩, hbel⟩

theorem elRow : ElemT Tryz.prog 163 23 (.slice none 0 0) 1 24 := ⟨Tryz.underlying163, info_parts (by kernel_rfl), rfl, by omega⟩
set_option maxRecDepth 100000 in
theorem l9None_any (m : Nat) (w : World) (hm : m ≤ 32) :
  Calls Tryz.prog 155 #[.int .i64 m] w fun e w' => (∃ v F, e = .returned v ∧ OwnI w' w.heap.size v (codeAll (noneParts m)) F ∧ (codeAll (noneParts m)).length ≤ 65 * m + 1) ∧ Below w.heap.size w w' := by
 have HP := Lib.hid (OwnP.lit w w.heap.size (Nat.le_refl _))
 go_enter Tryz.func155, Tryz.ntmps155
 go_wp2
 go_loopw [4, 3] (fun i v wr => ∃ (k : Nat) (vs : List Value), k ≤ m ∧ i = .int .i64 k ∧ OwnP wr w.heap.size v (noneParts k) vs ∧ Below w.heap.size w wr) (fun i _ _ => m - (intOf i).toNat)
 case atStart => exact ⟨0, _, by omega, rfl, HP.out, (Below.refl _ _).alloc (Nat.le_refl _) _⟩
 case round =>
  obtain ⟨k, vs, hk, rfl, hp, hbel⟩ := hrel
  have hsz := hbel.size
  by_cases hlt : k < m
  ·have hrow := hp.row
   rw [noneParts_len] at hrow
   have ho := OwnI.lit wr wr.heap.size (nonePart k) (Nat.le_refl _) (by simp [nonePart]; unfold maxLen; omega) (by
    intro x hx
    simp [nonePart] at hx
    rcases hx with rfl | rfl
    ·exact wf_i64_mk (by omega)
    ·rfl)
   have HO := Lib.hid ho
   have HK := Lib.hid (noneParts_succ k)
   clear ho
   go_wp2_with (at_builtin; refine wp_app elRow rfl _ _ rfl w.heap.size _ k vs rfl (hrow.alloc _ |>.alloc _) _ _ 1 1 [.slice (some ⟨wr.heap.size, 0, none⟩) 2 2] rfl (RdRow.newAt (wr.alloc (.cells #[.int .i64 k, .int .i64 7] 3)) [.slice (some ⟨wr.heap.size, 0, none⟩) 2 2] 23 1 1 (wr.heap.size + 1) (by simp) rfl (by unfold maxLen; omega)) (by simp [Value.oneCell']) (by omega) (by omega) (by simp; omega) ?_; intro v3 w3 hown3 hg3 hat3)
   have hp3 := hp.app hsz (((Below.refl _ _).alloc (Nat.le_refl _) _).alloc (by simp) _) (HO.out.below ((Below.refl _ _).alloc (Nat.le_refl _) (.cells #[.slice (some ⟨wr.heap.size, 0, none⟩) 2 2] 23))) (by rw [noneParts_len]) hown3 hg3 hat3
   rw [← HK.out] at hp3
   have hb3 : Below w.heap.size w w3 := ((hbel.alloc hsz _).alloc (by simp; omega) _).grown hg3 (by simp; omega) (fun j hj => by have := (hrow.lt j hj).1; omega)
   clear hown3 hg3 hat3 hrow
   go_wp2
   go_roundw
   case rel => exact ⟨k + 1, _, by omega, by go_num, hp3, hb3⟩
   case measure => simp [intOf]; omega
  ·have hkm : k = m := by omega
   subst hkm
   obtain ⟨A, c, hv, hr⟩ := hp.rd
   subst hv
   rw [noneParts_len] at hr
   have HS : Hid (∀ xs ∈ noneParts k, xs.length ≤ 64) := Lib.hid (by
    intro xs hx
    unfold noneParts at hx
    obtain ⟨j, -, rfl⟩ := List.mem_map.1 hx
    simp [nonePart])
   simp only [noneParts_len]
   clear hp
   go_wp2_with fail
   refine (l9All_any A k c _ _ hr HS.out (by omega)).mono ?_
   rintro e w2 ⟨⟨v2, F, rfl, ho, hl⟩, hb⟩
   go_wp2
   go_ret
   exact ⟨⟨_, _, rfl, ho.mono hsz, hl⟩, hbel.trans (hb.mono hsz)⟩
end Go.Proofs.YtkmcengmglgdeaaGreatDoor

/- Codes with facts turned round: codeTurned of the program, l9Turned of the reference: one plain function. Condition: the steps are such (0..9), and the facts a state (0..31). -/
namespace Go.Proofs.YtkmcengmglgdeaaGreatDoor
open Go.ChangeShapes Go.WideShapes Go.ChangeAt Go.RowKit

def turnOne (f : Nat) (x : Int) : List Int := if x < 5 ∧ bit f x.toNat = 1 then [x, 7] else [x]
def turnI (f : Nat) (xs : List Int) : List Int := xs.flatMap (turnOne f)
end Go.Proofs.YtkmcengmglgdeaaGreatDoor

/- Plain law: a task with some facts turned round; small words on memory. -/
namespace Go.Proofs.YtkmcengmglgdeaaGreatDoor
open Go.ChangeShapes Go.WideShapes Go.ChangeAt Go.RowKit

def turnOn (f a b : Nat) : Nat := a - (a &&& f) + (b &&& f)
def turnD (f : Nat) (d : DeedD) : DeedD := ⟨turnI f d.need, (turnOn f d.on.toNat d.off.toNat : Nat), (turnOn f d.off.toNat d.on.toNat : Nat), d.flip⟩
def turnT (f : Nat) (t : TaskD) : TaskD := ⟨((t.start.toNat ^^^ f : Nat) : Int), turnI f t.goal, t.deeds.map (turnD f)⟩
def turnOk (t : TaskD) (f : Int) : Bool := taskOk t && stIn f && taskOk (turnT f.toNat t)
def taskTurned (t : TaskD) (f : Int) : TaskD := if turnOk t f = true then turnT f.toNat t else ⟨0, [], []⟩
theorem OwnT.zero (w : World) (lo : Nat) : OwnT w lo (.agg #[.int .i64 0, .slice none 0 0, .slice none 0 0]) ⟨0, [], []⟩ [] :=
 ⟨_, _, [], [], [], [], rfl, OwnI.none w lo, by simp, ⟨World.ownsRow_nil w lo _ 4, by simp, rfl, by simp [Value.ownBlock], by simp⟩, rfl, rfl⟩
theorem OwnT.of_push {w : World} {lo lo1 lo2 T : Nat} {gv dv : Value} {t : TaskD} {Fg : List Nat} {cells : List Value} {Fs : List (List Nat)} (hg : OwnI w lo1 gv t.goal Fg) (hgs : t.goal.length ≤ 1048576) (hd : PushDs w lo2 T dv t.deeds cells Fs) (hst : (Lit.int .i64 t.start).wf = true)
  (h1 : lo ≤ lo1) (h2 : lo ≤ lo2) (h3 : ∀ b ∈ Fg, b < lo2) : OwnT w lo (.agg #[.int .i64 t.start, gv, dv]) t (Fg ++ (dv.ownBlock.toList ++ Fs.flatten)) ∧ (Fg ++ (dv.ownBlock.toList ++ Fs.flatten)).Nodup := by
 refine ⟨⟨gv, dv, Fg, _, cells, Fs, rfl, hg.mono h1, hgs, hd.own.mono h2, rfl, hst⟩, ?_⟩
 rw [List.nodup_append]
 refine ⟨hg.nodup, hd.nodup, fun a ha b hb => ?_⟩
 have := h3 a ha
 have := (hd.own.lt b hb).1
 omega
end Go.Proofs.YtkmcengmglgdeaaGreatDoor
