/- The law FnRings: part of the proof that for every input it returns true. No condition. -/
import Derived.Test.YtloainegonlibaaRingsP
namespace Go.V.W
theorem rg2_2_0 : rgS 2 2 0 = some true := by kernel_rfl
theorem rg2_2_1 : rgS 2 2 1 = some true := by kernel_rfl
theorem rg2_2_2 : rgS 2 2 2 = some true := by kernel_rfl
theorem rg2_2_3 : rgS 2 2 3 = some true := by kernel_rfl
theorem rg2_3_0 : rgS 2 3 0 = some true := by kernel_rfl
theorem rg2_3_1 : rgS 2 3 1 = some true := by kernel_rfl
theorem rg2_3_2 : rgS 2 3 2 = some true := by kernel_rfl
theorem rg2_3_3 : rgS 2 3 3 = some true := by kernel_rfl
end Go.V.W
