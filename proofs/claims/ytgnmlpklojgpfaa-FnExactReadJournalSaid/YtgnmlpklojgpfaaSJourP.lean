/- Journals of acts as they lie in memory: plain laws. -/
import Derived.Test.YtgnmlpklojgpfaaSActRS
namespace Go.Proofs.Ytgnmlpklojgpfaa
set_option linter.unusedVariables false
set_option linter.unusedSimpArgs false

def aT (a : ActD) : List UInt8 := actT a.kind a.number
def aL (a : ActD) : List UInt8 := aT a ++ [10]
/-- the text of a journal -/
def jT (aa : List ActD) : List UInt8 := if aa.all (fun a => aT a != []) = true then aa.flatMap aL else []
def dP (aa : List ActD) : List (Int × Int) := aa.map fun a => (a.kind, a.number)
/-- what a text is read as -/
def rJ (s : List UInt8) : List ActD := dL (readJ [] s).1
def rN (s : List UInt8) : Nat := (readJ [] s).2
end Go.Proofs.Ytgnmlpklojgpfaa
