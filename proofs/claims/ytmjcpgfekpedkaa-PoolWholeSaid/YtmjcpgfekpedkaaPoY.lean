/- Plain: a word added to all words: maxima, picks and means of windows. No program in sight. -/
import Derived.Test.YtmjcpgfekpedkaaPoV
set_option linter.unusedVariables false
set_option linter.unusedSimpArgs false
namespace Go.Proofs.Ytmjcpgfekpedkaa
open Go.RowKit Go.Rt
theorem poV_word {xs ys : List Int} {wv : WinV} (ht : tenB xs ys = true) (n : Nat) : isW (poV ys wv n) = true := isW_iff.2 (yAt_word (tenB_iff.1 ht).2.2 _)
end Go.Proofs.Ytmjcpgfekpedkaa
