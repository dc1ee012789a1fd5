/- The law FnRings: part of the proof that for every input it returns true. No condition. -/
import Derived.Test.YtloainegonlibaaRingsP
namespace Go.V.W
theorem rg3_2_0 : rgS 3 2 0 = some true := by kernel_rfl
theorem rg3_2_1 : rgS 3 2 1 = some true := by kernel_rfl
theorem rg3_2_2 : rgS 3 2 2 = some true := by kernel_rfl
theorem rg3_2_3 : rgS 3 2 3 = some true := by kernel_rfl
theorem rg3_2_4 : rgS 3 2 4 = some true := by kernel_rfl
end Go.V.W
