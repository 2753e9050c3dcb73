/- Powers of the draws' step, as the kernel computes them. Plain arithmetic, no program in sight. -/
import Derived.Test.YtiejkdnkdmanmaaXoro
set_option linter.unusedVariables false
set_option linter.unusedSimpArgs false
namespace Go.Rt
theorem off3 : (ev 256 (pwX 256 2 38597363079105398474523661669562635951089994888546854679819194669304376546645) 1 != 1) = true := by decide +kernel
theorem off5 : (ev 256 (pwX 256 2 23158417847463239084714197001737581570653996933128112807891516801582625927987) 1 != 1) = true := by decide +kernel
theorem off17 : (ev 256 (pwX 256 2 6811299366900952671974763824040465167839410862684739061144563765171360567055) 1 != 1) = true := by decide +kernel
theorem off257 : (ev 256 (pwX 256 2 450552876409790643671482431940419874915447411150352389258589821042463539455) 1 != 1) = true := by decide +kernel
end Go.Rt
