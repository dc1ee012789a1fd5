/- The law FnRings: part of the proof that for every input it returns true. No condition. -/
import Derived.Test.YtloainegonlibaaRingsP
namespace Go.V.W
theorem rg3_5_0 : rgS 3 5 0 = some true := by kernel_rfl
theorem rg3_5_1 : rgS 3 5 1 = some true := by kernel_rfl
theorem rg3_5_2 : rgS 3 5 2 = some true := by kernel_rfl
theorem rg3_5_3 : rgS 3 5 3 = some true := by kernel_rfl
theorem rg3_5_4 : rgS 3 5 4 = some true := by kernel_rfl
end Go.V.W
