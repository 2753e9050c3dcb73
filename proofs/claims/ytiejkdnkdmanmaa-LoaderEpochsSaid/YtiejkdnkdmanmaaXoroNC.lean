/- Powers of the draws' step, as the kernel computes them. Plain arithmetic, no program in sight. -/
import Derived.Test.YtiejkdnkdmanmaaXoro
set_option linter.unusedVariables false
set_option linter.unusedSimpArgs false
namespace Go.Rt
theorem on_full : pwX 256 2 115792089237316195423570985008687907853269984665640564039457584007913129639935 = 1 := by decide +kernel
theorem off67280421310721 : (ev 256 (pwX 256 2 1721036922503113971692907638171526209875755521904893141463060735) 1 != 1) = true := by decide +kernel
theorem off59649589127497217 : (ev 256 (pwX 256 2 1941205143757452242770874767385119893385096602219740994029055) 1 != 1) = true := by decide +kernel
theorem off5704689200685129054721 : (ev 256 (pwX 256 2 20297703374166229616474325006177763232573806344580020735) 1 != 1) = true := by decide +kernel
end Go.Rt
