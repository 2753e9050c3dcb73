/- Powers of the draws' step, as the kernel computes them. Plain arithmetic, no program in sight. -/
import Derived.Test.YtiejkdnkdmanmaaXoro
set_option linter.unusedVariables false
set_option linter.unusedSimpArgs false
namespace Go.Rt
theorem off641 : (ev 256 (pwX 256 2 180642884925610289272341630278764286822574079041560942339247400948382417535) 1 != 1) = true := by decide +kernel
theorem off65537 : (ev 256 (pwX 256 2 1766820105243087041267848467410591083712559083657179364930612997358944255) 1 != 1) = true := by decide +kernel
theorem off274177 : (ev 256 (pwX 256 2 422326049367073807881663979869529201403728192611490256438204459192102655) 1 != 1) = true := by decide +kernel
theorem off6700417 : (ev 256 (pwX 256 2 17281325809619937896935516850471830014948321076977830490170624307101055) 1 != 1) = true := by decide +kernel
end Go.Rt
