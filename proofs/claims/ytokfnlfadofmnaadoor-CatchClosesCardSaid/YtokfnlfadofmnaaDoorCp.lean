/- CatchOnce: the plain law, by evaluation. -/
import Derived.Test.YtokfnlfadofmnaaDoorCo
namespace Go.Proofs.YtokfnlfadofmnaaDoor
open Go.RowKit
set_option linter.unusedVariables false

def preL (r : Bool) : List Stp := if r then [⟨7, 0, 1⟩] else []
def endL (n h : Nat) : List Stp := if h = 0 then [⟨10, n, 0⟩] else if h = 1 then [⟨9, -5, 0⟩] else []
def onceL (n h : Nat) (r : Bool) : List Stp := preL r ++ List.replicate n ⟨7, 0, 2⟩ ++ endL n h
def onceF (n h : Nat) (r : Bool) : List (List Stp) := [onceL n h r, [⟨11, 0, 0⟩, ⟨4, 0, 0⟩], [⟨2, 1, 0⟩, ⟨4, 0, 0⟩]]
def onceOk (n h : Nat) (r : Bool) : Bool :=
  progOk (onceF n h r) && decide (totL (onceF n h r) 3 ≤ 10000) && decide ((onceL n h r).length ≤ 100) &&
  match runL (onceF n h r) itoaB 1000 1 0 0 Res.new none [] m0 with
  | none => false
  | some x => ((List.range n).all fun i => match x.m.out[i]? with | none => false | some o => decide (o.fn = 2) && decide (o.number = (i : Int) + 1)) && !x.m.spent &&
      (if !r && decide (h < 2) then !decide ((x.p.getD Pan.none).sort = 0) && decide (x.m.out.length = n) else decide ((x.p.getD Pan.none).sort = 0) && decide (x.r.number = n))
theorem once_all : ∀ n, n < 50 → ∀ h, h < 3 → ∀ r, onceOk n h r = true := by decide +kernel
end Go.Proofs.YtokfnlfadofmnaaDoor
