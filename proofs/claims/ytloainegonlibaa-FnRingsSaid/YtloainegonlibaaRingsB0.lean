/- The law FnRings: part of the proof that for every input it returns true. No condition. -/
import Derived.Test.YtloainegonlibaaRingsP
namespace Go.V.W
theorem rg2_0_0 : rgS 2 0 0 = some true := by kernel_rfl
theorem rg2_0_1 : rgS 2 0 1 = some true := by kernel_rfl
theorem rg2_0_2 : rgS 2 0 2 = some true := by kernel_rfl
theorem rg2_0_3 : rgS 2 0 3 = some true := by kernel_rfl
theorem rg2_1_0 : rgS 2 1 0 = some true := by kernel_rfl
theorem rg2_1_1 : rgS 2 1 1 = some true := by kernel_rfl
theorem rg2_1_2 : rgS 2 1 2 = some true := by kernel_rfl
theorem rg2_1_3 : rgS 2 1 3 = some true := by kernel_rfl
end Go.V.W
