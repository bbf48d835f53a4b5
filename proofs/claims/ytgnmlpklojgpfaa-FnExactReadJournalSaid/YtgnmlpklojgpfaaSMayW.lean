/- Joined texts: MayW, IntS, TDraw. -/
import Derived.Test.YtgnmlpklojgpfaaSShortP
import Derived.Test.YtgnmlpklojgpfaaSHelp
import Derived.Test.YtgnmlpklojgpfaaSFront
import Derived.Test.YtgnmlpklojgpfaaSPermW
/- DeedsMay of the program and of the reference; DeedDo of the reference. -/
namespace Go.Proofs.Ytgnmlpklojgpfaa
set_option linter.unusedVariables false
set_option linter.unusedSimpArgs false
open Go.ChangeShapes Go.WideShapes Go.ChangeAt Go.RowKit

def deedDoR (d : DeedD) (s : Int) : Int := if deedOk d = true ∧ stIn s = true then opt (deedDo d s.toNat) else -1
def mayZ (ds : List DeedD) (s : Int) (n : Nat) : List Int := if stIn s then mayN ds s.toNat n else []
end Go.Proofs.Ytgnmlpklojgpfaa

/- A row of numbers of the list St, read: with the name of its value at hand. No program in sight but for type numbers. -/
namespace Go.Proofs.Ytgnmlpklojgpfaa
end Go.Proofs.Ytgnmlpklojgpfaa

/- The draws of conditions, deeds and tasks: what is drawn is some condition, deed or task of its own; nothing is said of which. -/
namespace Go.Proofs.Ytgnmlpklojgpfaa
set_option linter.unusedVariables false
set_option linter.unusedSimpArgs false
open Go.ChangeShapes Go.WideShapes Go.ChangeAt Go.RowKit

def Dig (xs : List Int) : Prop := ∀ x ∈ xs, 0 ≤ x ∧ x ≤ 9
theorem Dig.wf {xs : List Int} (h : Dig xs) : ∀ x ∈ xs, (Lit.int .i64 x).wf = true := fun x hx => wf_i64_mk (by have := h x hx; omega)
theorem Dig.app {xs ys : List Int} (h : Dig xs) (k : Dig ys) : Dig (xs ++ ys) := fun x hx => (List.mem_append.1 hx).elim (h x) (k x)
theorem Dig.one {x : Int} (h0 : 0 ≤ x) (h1 : x ≤ 9) : Dig [x] := fun y hy => by rw [List.mem_singleton] at hy; subst hy; exact ⟨h0, h1⟩
theorem Dig.two {x y : Int} (h0 : 0 ≤ x) (h1 : x ≤ 9) (k0 : 0 ≤ y) (k1 : y ≤ 9) : Dig [x, y] := (Dig.one h0 h1).app (Dig.one k0 k1)
end Go.Proofs.Ytgnmlpklojgpfaa
