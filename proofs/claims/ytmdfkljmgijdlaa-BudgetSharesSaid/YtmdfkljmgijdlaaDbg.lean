import Derived.Outline
import Lean
open Lean Elab Tactic Meta
/-- short print of every goal -/
elab "dbg" : tactic => do
  for g in ← getGoals do
    g.withContext do
      let mut hyps : Array MessageData := #[]
      for d in ← getLCtx do
        if d.isImplementationDetail then continue
        let ty ← instantiateMVars d.type
        if (ty.find? (fun e => e.isConstOf ``Go.Code.wp || e.isConstOf ``Go.wpList)).isSome then continue
        if d.isLet then continue
        let s := (toString (← ppExpr ty))
        let s := if s.length > 300 then (s.take 300).toString ++ " .." else s
        if ← isProp ty then hyps := hyps.push m!"{d.userName} : {s}"
      let t := (← instantiateMVars (← g.getType)).consumeMData
      let args := t.getAppArgs
      let pr (e : Expr) (n : Nat := 1500) : MetaM MessageData := do
        let s := toString (← ppExpr e); return if s.length > n then (s.take n).toString ++ " .." else s
      let body ← (do
        if t.isAppOf ``Go.Oper.upon then
          return m!"UPON op {← pr (args[1]!)}\n  RESULT {← pr (args[args.size-1]!)}"
        else if t.isAppOf ``Go.wpList then
          let l := args[3]!
          let o := if l.isAppOfArity ``List.cons 3 then l.getAppArgs[1]! else l
          return m!"WPLIST first {← pr o}\n  WORLD {← pr (args[5]!)}"
        else if (t.getAppFn.constName?.map (fun n => n.toString)).getD "" == "Go.wpStill" || (t.getAppFn.constName?.map (fun n => n.toString)).getD "" == "Go.wpQuiet" then
          let mut m := m!"STILL/QUIET"
          for a in args do
            if a.isAppOfArity ``List.cons 3 then
              m := m ++ m!"\n first {← pr (a.getAppArgs[1]!) 400}"
          return m
        else if t.isAppOf ``Go.Calls then
          return m!"CALLS {← pr (args[1]!)} {← pr (args[2]!)}\n  WORLD {← pr (args[3]!)}"
        else if t.isAppOf ``Go.bodyPost then
          return m!"BODYPOST {← pr (args[1]!)} EXIT {← pr (args[3]!)}\n TMPS {← pr (args[4]!) 3000}\n WORLD {← pr (args[5]!)}"
        else if t.isAppOf ``Go.Code.wp then
          return m!"CODE {← pr (args[1]!) 300}\n WORLD {← pr (args[args.size-1]!)}"
        else return m!"⊢ {← pr t}")
      logInfo m!"[{← g.getTag}] {MessageData.joinSep hyps.toList "\n"}\n{body}"
namespace YtmDbg
open Lean Elab Tactic
elab "norec " t:tacticSeq : tactic => do
  try Tactic.withoutRecover (evalTactic t)
  catch e => logInfo m!"NOREC {e.toMessageData}"; throwError "norec"
end YtmDbg
