/- catch's machine, plainly, for steps that name no error: what a frame does. No program in sight. -/
import Derived.Test.YtokfnlfadofmnaaDoorK
namespace Go.Proofs.YtokfnlfadofmnaaDoor
open Go.RowKit
set_option linter.unusedVariables false

structure Pan where
  sort : Int
  word : ByteArray
def Pan.none : Pan := ⟨0, ⟨#[]⟩⟩
def Pan.rt : Pan := ⟨2, ⟨#[]⟩⟩
def Pan.own (s : ByteArray) : Pan := ⟨1, s⟩
structure Stp where
  op : Nat
  n : Int
  f : Nat
instance : Inhabited Stp := ⟨⟨0, 0, 0⟩⟩
structure Res where
  number : Int
  last : Pan
def Res.new : Res := ⟨0, Pan.none⟩
structure OutE where
  fn : Int
  at_ : Int
  number : Int
  pan : Pan
structure Mst where
  steps : Nat
  spent : Bool
  out : List OutE
structure Dfr where
  shared : Bool
  f : Nat
structure Fin where
  r : Res
  by_ : Option Pan
  p : Option Pan
  m : Mst

/-- What a plain step comes to: a panic, or the number. -/
def plainS (word : Int → ByteArray) (s : Stp) (r : Res) : Pan ⊕ Res :=
  if s.op = 1 then .inr { r with number := s.n }
  else if s.op = 2 then .inr { r with number := IntKind.i16.wrap (r.number + s.n) }
  else if s.op = 9 then .inl (Pan.own (word s.n))
  else .inl Pan.rt

def spend (m : Mst) : Mst := if m.steps = 10000 then { m with spent := true } else m
def tick (m : Mst) : Mst := { m with steps := m.steps + 1 }
def caughtR (p : Pan) (r : Res) : Res := if p.sort = 0 then r else { r with last := p }
def say (o : OutE) (m : Mst) : Mst := { m with out := m.out ++ [o] }
def givenR (sp : Bool) (r own : Res) : Res := if sp then r else { r with number := own.number }
def nextBy (x : Fin) : Option Pan := match x.p with | some q => some q | none => x.by_

mutual
def runL (F : List (List Stp)) (word : Int → ByteArray) : Nat → Nat → Nat → Nat → Res → Option Pan → List Dfr → Mst → Option Fin
  | 0, _, _, _, _, _, _, _ => none
  | n + 1, d, f, at_, r, by_, ds, m =>
    if at_ < (F.getD f []).length then
      if (spend m).spent then leaveL F word n d r by_ ds none (spend m)
      else
        let s := (F.getD f []).getD at_ default
        if s.op = 16 then runL F word n d f s.n.toNat r by_ ds (tick (spend m))
        else if s.op = 6 then runL F word n d f (at_ + 1) r by_ (⟨false, s.f⟩ :: ds) (tick (spend m))
        else if s.op = 7 then runL F word n d f (at_ + 1) r by_ (⟨true, s.f⟩ :: ds) (tick (spend m))
        else if s.op = 11 then runL F word n d f (at_ + 1) (caughtR (by_.getD Pan.none) r) none ds (say ⟨f, at_, 0, by_.getD Pan.none⟩ (tick (spend m)))
        else if s.op = 4 then runL F word n d f (at_ + 1) r by_ ds (say ⟨f, at_, r.number, Pan.none⟩ (tick (spend m)))
        else if s.op = 5 then
          if 64 ≤ d then leaveL F word n d r by_ ds (some Pan.rt) (tick (spend m))
          else match runL F word n (d + 1) s.f 0 Res.new none [] (tick (spend m)) with
            | none => none
            | some x => match x.p with
              | some p => leaveL F word n d r by_ ds (some p) x.m
              | none => runL F word n d f (at_ + 1) (givenR x.m.spent r x.r) by_ ds x.m
        else match plainS word s r with
          | .inl p => leaveL F word n d r by_ ds (some p) (tick (spend m))
          | .inr r => runL F word n d f (at_ + 1) r by_ ds (tick (spend m))
    else leaveL F word n d r by_ ds none m
def leaveL (F : List (List Stp)) (word : Int → ByteArray) : Nat → Nat → Res → Option Pan → List Dfr → Option Pan → Mst → Option Fin
  | 0, _, _, _, _, _, _ => none
  | n + 1, d, r, by_, [], p, m => some ⟨r, by_, p, m⟩
  | n + 1, d, r, by_, q :: ds, p, m =>
    match runL F word n (d + 1) q.f 0 (if q.shared then r else Res.new) p [] m with
    | none => none
    | some x => leaveL F word n d (if q.shared then x.r else r) by_ ds (nextBy x) x.m
end

/-- What the functions are: steps of the kinds that name no error, within their bounds. -/
def stepOk (n len : Nat) (s : Stp) : Bool :=
  decide (-32768 ≤ s.n) && decide (s.n ≤ 32767) && ((s.op == 16 && decide (0 ≤ s.n) && decide (s.n ≤ len)) || ((s.op == 5 || s.op == 6 || s.op == 7) && decide (s.f < n)) || s.op == 1 || s.op == 2 || s.op == 4 || s.op == 9 || s.op == 10 || s.op == 11)
def progOk (F : List (List Stp)) : Bool := F.all fun f => f.all fun s => stepOk F.length f.length s

/-- The bounds that a machine keeps. -/
structure MB (m : Mst) : Prop where
  steps : m.steps ≤ 10000
  outs : m.out.length ≤ m.steps
  spent : m.spent = false ∨ m.steps = 10000
theorem MB.spend {m : Mst} (h : MB m) : MB (spend m) := by
  unfold Go.Proofs.YtokfnlfadofmnaaDoor.spend; split
  · exact ⟨h.steps, h.outs, .inr ‹_›⟩
  · exact h
theorem spend_not {m : Mst} (h : (spend m).spent = false) : spend m = m ∧ m.steps ≠ 10000 ∧ m.spent = false := by
  unfold spend at h ⊢; split at h
  · cases h
  · rename_i g; rw [if_neg g]; exact ⟨rfl, g, h⟩
end Go.Proofs.YtokfnlfadofmnaaDoor
