/- Plain law: deeds done, plans run: what DeedDo and PlanRun tell, as plain functions; no program in sight. -/
import Derived.Test.YtgnmlpklojgpfaaDoorSTask
import Derived.Test.YtgnmlpklojgpfaaDoorSNum
namespace Go.Proofs.YtgnmlpklojgpfaaDoor

def opt : Option Nat → Int
  | some s => s
  | none => -1
/-- the state behind a deed, where it may be done -/
def behind (d : DeedD) (s : Nat) : Nat := ((s ||| d.on.toNat) - ((s ||| d.on.toNat) &&& d.off.toNat)) ^^^ d.flip.toNat
def deedDo (d : DeedD) (s : Nat) : Option Nat := if evalCode d.need s then some (behind d s) else none
def stepP (t : TaskD) (s : Nat) (k : Int) : Option Nat := if 0 ≤ k ∧ k < t.deeds.length then (t.deeds[k.toNat]?).bind (deedDo · s) else none
def runP (t : TaskD) : Nat → List Int → Option Nat
  | s, [] => some s
  | s, k :: ks => (stepP t s k).bind fun s' => runP t s' ks
def planRun (t : TaskD) (s : Int) (p : List Int) : Int := if taskOk t = true ∧ stIn s = true ∧ p.length ≤ 40 then opt (runP t s.toNat p) else -1

end Go.Proofs.YtgnmlpklojgpfaaDoor
