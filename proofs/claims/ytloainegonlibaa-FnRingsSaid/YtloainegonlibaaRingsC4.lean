/- The law FnRings: part of the proof that for every input it returns true. No condition. -/
import Derived.Test.YtloainegonlibaaRingsP
namespace Go.V.W
theorem rg3_4_0 : rgS 3 4 0 = some true := by kernel_rfl
theorem rg3_4_1 : rgS 3 4 1 = some true := by kernel_rfl
theorem rg3_4_2 : rgS 3 4 2 = some true := by kernel_rfl
theorem rg3_4_3 : rgS 3 4 3 = some true := by kernel_rfl
theorem rg3_4_4 : rgS 3 4 4 = some true := by kernel_rfl
end Go.V.W
