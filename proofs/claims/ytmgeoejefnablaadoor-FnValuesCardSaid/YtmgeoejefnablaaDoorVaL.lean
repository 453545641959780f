/- What FnValues says in the end: yes, whatever it is given. Nothing is assumed. -/
import Derived.Test.YtmgeoejefnablaaDoorVaD5
namespace Go.Am.Va
variable {SK : Src}
set_option linter.unusedVariables false
set_option linter.unusedSimpArgs false
set_option maxRecDepth 8000
/-- The law, whatever the bytes are. -/
theorem law_said {SK : Src} {a : Option Addr} {n c : Nat} (h : n = SK.bytes.length) (h' : n ≠ 0 → a = some ⟨SK.b, SK.off, none⟩) : Ev (fs SK) 5 [.d (.v (.slice a n c))] (bo true) := f5 (SK := SK) h h'
end Go.Am.Va
