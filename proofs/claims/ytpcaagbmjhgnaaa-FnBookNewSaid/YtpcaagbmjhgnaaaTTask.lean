/- Plain law: a task with some facts turned round; small words on memory. -/
import Derived.Test.YtpcaagbmjhgnaaaTurn
import Derived.Deep.RegionHeld3
import Derived.Deep.DeepCutAuto
namespace Go.Proofs.Ytpcaagbmjhgnaaa
open Go.ChangeShapes Go.WideShapes Go.ChangeAt Go.RowKit

def turnOn (f a b : Nat) : Nat := a - (a &&& f) + (b &&& f)
def turnD (f : Nat) (d : DeedD) : DeedD := ⟨turnI f d.need, (turnOn f d.on.toNat d.off.toNat : Nat), (turnOn f d.off.toNat d.on.toNat : Nat), d.flip⟩
def turnT (f : Nat) (t : TaskD) : TaskD := ⟨((t.start.toNat ^^^ f : Nat) : Int), turnI f t.goal, t.deeds.map (turnD f)⟩
def turnOk (t : TaskD) (f : Int) : Bool := taskOk t && stIn f && taskOk (turnT f.toNat t)
def taskTurned (t : TaskD) (f : Int) : TaskD := if turnOk t f = true then turnT f.toNat t else ⟨0, [], []⟩
theorem Blk.drew' {w : World} {g : Nat} {t : TypeId} {cs : Array Value} (h : Blk w g t cs) : Blk w.drew g t cs := h
theorem Only.then_below {F : List Nat} {a b c : World} (h : Only F a b) (k : Below a.heap.size b c) : Only F a c :=
  ⟨k.os.trans h.os, k.tape.trans h.tape, k.output.trans h.output, Nat.le_trans h.size k.size, fun i hi hn => (k.block i hi).trans (h.block i hi hn)⟩
theorem OwnT.zero (w : World) (lo : Nat) : OwnT w lo (.agg #[.int .i64 0, .slice none 0 0, .slice none 0 0]) ⟨0, [], []⟩ [] :=
  ⟨_, _, [], [], [], [], rfl, OwnI.none w lo, by simp, ⟨World.ownsRow_nil w lo _ 4, by simp, rfl, by simp [Value.ownBlock], by simp⟩, rfl, rfl⟩
theorem OwnT.of_push {w : World} {lo lo1 lo2 T : Nat} {gv dv : Value} {t : TaskD} {Fg : List Nat} {cells : List Value} {Fs : List (List Nat)} (hg : OwnI w lo1 gv t.goal Fg) (hgs : t.goal.length ≤ 1048576) (hd : PushDs w lo2 T dv t.deeds cells Fs) (hst : (Lit.int .i64 t.start).wf = true)
    (h1 : lo ≤ lo1) (h2 : lo ≤ lo2) (h3 : ∀ b ∈ Fg, b < lo2) : OwnT w lo (.agg #[.int .i64 t.start, gv, dv]) t (Fg ++ (dv.ownBlock.toList ++ Fs.flatten)) ∧ (Fg ++ (dv.ownBlock.toList ++ Fs.flatten)).Nodup := by
  refine ⟨⟨gv, dv, Fg, _, cells, Fs, rfl, hg.mono h1, hgs, hd.own.mono h2, rfl, hst⟩, ?_⟩
  rw [List.nodup_append]
  refine ⟨hg.nodup, hd.nodup, fun a ha b hb => ?_⟩
  have := h3 a ha
  have := (hd.own.lt b hb).1
  omega
theorem turn_or0 : ∀ f a b : Fin 32, (a.val - (a.val &&& f.val)) ||| (b.val &&& f.val) = turnOn f.val a.val b.val ∧ turnOn f.val a.val b.val < 64 := by decide +kernel

theorem turn_or (f a b : Nat) (hf : f < 32) (ha : a < 32) (hb : b < 32) : bits .or .i64 (bits .andNot .i64 (a : Int) (f : Int)) (bits .and .i64 (b : Int) (f : Int)) = ((turnOn f a b : Nat) : Int) := by
  have h1 : a &&& f ≤ a := Nat.and_le_left
  have h2 : b &&& f ≤ b := Nat.and_le_left
  rw [i64_andNot_nat _ _ (by omega) (by omega), i64_and_nat _ _ (by omega) (by omega), i64_or_nat _ _ (by omega) (by omega)]
  exact congrArg _ (turn_or0 ⟨f, hf⟩ ⟨a, ha⟩ ⟨b, hb⟩).1
end Go.Proofs.Ytpcaagbmjhgnaaa
