/- Plain law: a task with some facts turned round; small words on memory. -/
import Derived.Test.YtgnmlpklojgpfaaSMark2
import Derived.Deep.RegionHeld3
import Derived.Deep.DeepCutAuto
namespace Go.Proofs.Ytgnmlpklojgpfaa
open Go.ChangeShapes Go.WideShapes Go.ChangeAt Go.RowKit

def turnOn (f a b : Nat) : Nat := a - (a &&& f) + (b &&& f)
def turnD (f : Nat) (d : DeedD) : DeedD := ⟨turnI f d.need, (turnOn f d.on.toNat d.off.toNat : Nat), (turnOn f d.off.toNat d.on.toNat : Nat), d.flip⟩
def turnT (f : Nat) (t : TaskD) : TaskD := ⟨((t.start.toNat ^^^ f : Nat) : Int), turnI f t.goal, t.deeds.map (turnD f)⟩
def turnOk (t : TaskD) (f : Int) : Bool := taskOk t && stIn f && taskOk (turnT f.toNat t)
def taskTurned (t : TaskD) (f : Int) : TaskD := if turnOk t f = true then turnT f.toNat t else ⟨0, [], []⟩
theorem OwnT.zero (w : World) (lo : Nat) : OwnT w lo (.agg #[.int .i64 0, .slice none 0 0, .slice none 0 0]) ⟨0, [], []⟩ [] :=
  ⟨_, _, [], [], [], [], rfl, OwnI.none w lo, by simp, ⟨World.ownsRow_nil w lo _ 4, by simp, rfl, by simp [Value.ownBlock], by simp⟩, rfl, rfl⟩
end Go.Proofs.Ytgnmlpklojgpfaa
