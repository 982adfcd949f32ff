/-
QueueTurns, for all pods.
-/
import Derived.Test.YtllgfkpmblhbmaaGreatQu6
import Derived.Test.YtllgfkpmblhbmaaGreatQu6n
set_option linter.unusedVariables false
set_option linter.unusedSimpArgs false
namespace Go.Eng
open Go
section
variable {P : Program} (hG : FnsOk P AF.fns.get)
include hG
theorem queueTurns_ok (hk : okFn P 7 AF.qt = true) (hI : InsOk P 64) (hb : ACall P 8 [] noG (fun r _ => r = .b true)) (ps : List PodD) (hl : LenOk ps) (hps : GoodL ps) :
    ACall P 7 [.sl none 16 (ps.map podR)] noG (fun r _ => r = .b true) := by
  by_cases h : ps = []
  · subst h
    exact queueTurns_nil hG hk hb
  · exact queueTurns_some hG hk hI hb ps hl hps h
end
end Go.Eng
