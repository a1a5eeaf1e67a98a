import Derived.Test.YtemffgbncjnmkaaGreatPk
set_option linter.unusedVariables false
noncomputable section
namespace Go.Proofs.YtemffgbncjnmkaaGreat
open Go Go.Sh Go.Va
abbrev wA:Str:=List.map UInt8.ofNat [97]
abbrev wB:Str:=List.map UInt8.ofNat [98]
abbrev wR:Str:=List.map UInt8.ofNat [114,101,116,117,114,110]
end Go.Proofs.YtemffgbncjnmkaaGreat
