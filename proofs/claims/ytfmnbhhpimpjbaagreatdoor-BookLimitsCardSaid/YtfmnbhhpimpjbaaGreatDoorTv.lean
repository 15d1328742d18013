/- kinds: the values of errors that are plain ones. -/
import Derived.Test.YtfmnbhhpimpjbaaGreatDoorTa
namespace Go.Proofs.YtfmnbhhpimpjbaaGreatDoor
open Go.RowKit
set_option linter.unusedVariables false

/-- The nothing of a kind. -/
def noneV (k : Int) : Value :=
  if k = 6 then .iface 139 (.agg #[.map none]) else
  if k = 7 then .iface 160 .nilFunc else
  if k = 8 then .iface 162 (.chan none) else
  if k = 9 then .iface 111 (.pointer none) else
  if k = 10 then .iface 163 (.pointer none) else
  if k = 14 then .iface 119 (.pointer none) else
  if k = 16 then .iface 129 (.pointer none) else
  if k = 21 then .iface 164 (.pointer none) else
  if k = 22 then .iface 165 (.pointer none) else
  if k = 23 then .iface 167 (.agg #[.slice none 0 0]) else
  if k = 24 then .iface 168 (.pointer none) else
  .iface 133 (.pointer none)
/-- An error that is a plain value. -/
def leafV (s : Sp) : Value :=
  if s.kind = 1 then .iface 91 (.int .i16 s.number)
  else if s.kind = 2 then .iface 176 (.string s.text)
  else if s.kind = 3 then .iface 177 (.float .f64 s.re)
  else if s.kind = 4 then .iface 178 (.complex .f64 s.re s.im)
  else if s.kind = 11 then .iface 125 (.agg #[.int .i16 s.number, .string s.text])
  else if s.kind = 19 then .iface 187 (.agg #[.int .i16 s.number, .float .f64 s.re])
  else if s.number = 1 then .iface 206 (.agg #[.int .i8 s.small])
  else .iface 208 (.agg #[.float .f64 s.re])
def tellF (s : Sp) : FuncId := if s.flag then 82 else 83
end Go.Proofs.YtfmnbhhpimpjbaaGreatDoor
