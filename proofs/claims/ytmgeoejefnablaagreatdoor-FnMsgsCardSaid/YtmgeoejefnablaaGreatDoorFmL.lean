/- What FnMsgs says in the end: yes, whatever it is given. Nothing is assumed. -/
import Derived.Test.YtmgeoejefnablaaGreatDoorFmD8
namespace Go.Am.Fm
variable {SK : Src}
set_option linter.unusedVariables false
set_option linter.unusedSimpArgs false
set_option maxRecDepth 8000
end Go.Am.Fm
