/- The law FnRings: part of the proof that for every input it returns true. No condition. -/
import Derived.Test.YtloainegonlibaaRingsP
namespace Go.V.W
theorem rg3_1_0 : rgS 3 1 0 = some true := by kernel_rfl
theorem rg3_1_1 : rgS 3 1 1 = some true := by kernel_rfl
theorem rg3_1_2 : rgS 3 1 2 = some true := by kernel_rfl
theorem rg3_1_3 : rgS 3 1 3 = some true := by kernel_rfl
theorem rg3_1_4 : rgS 3 1 4 = some true := by kernel_rfl
end Go.V.W
