/- The law FnRings: part of the proof that for every input it returns true. No condition. -/
import Derived.Test.YtloainegonlibaaRingsP
namespace Go.V.W
theorem rg3_3_0 : rgS 3 3 0 = some true := by kernel_rfl
theorem rg3_3_1 : rgS 3 3 1 = some true := by kernel_rfl
theorem rg3_3_2 : rgS 3 3 2 = some true := by kernel_rfl
theorem rg3_3_3 : rgS 3 3 3 = some true := by kernel_rfl
theorem rg3_3_4 : rgS 3 3 4 = some true := by kernel_rfl
end Go.V.W
