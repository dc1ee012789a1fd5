/- The law FnRings: part of the proof that for every input it returns true. No condition. -/
import Derived.Test.YtloainegonlibaaRingsP
namespace Go.V.W
theorem rg3_0_0 : rgS 3 0 0 = some true := by kernel_rfl
theorem rg3_0_1 : rgS 3 0 1 = some true := by kernel_rfl
theorem rg3_0_2 : rgS 3 0 2 = some true := by kernel_rfl
theorem rg3_0_3 : rgS 3 0 3 = some true := by kernel_rfl
theorem rg3_0_4 : rgS 3 0 4 = some true := by kernel_rfl
end Go.V.W
