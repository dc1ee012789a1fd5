/- The law FnRings: part of the proof that for every input it returns true. No condition. -/
import Derived.Test.YtloainegonlibaaRingsP
namespace Go.V.W
theorem rg0_0_0 : rgS 0 0 0 = some true := by kernel_rfl
theorem rg0_0_1 : rgS 0 0 1 = some true := by kernel_rfl
theorem rg0_1_0 : rgS 0 1 0 = some true := by kernel_rfl
theorem rg0_1_1 : rgS 0 1 1 = some true := by kernel_rfl
theorem rg0_2_0 : rgS 0 2 0 = some true := by kernel_rfl
theorem rg0_2_1 : rgS 0 2 1 = some true := by kernel_rfl
theorem rg1_0_0 : rgS 1 0 0 = some true := by kernel_rfl
theorem rg1_0_1 : rgS 1 0 1 = some true := by kernel_rfl
theorem rg1_0_2 : rgS 1 0 2 = some true := by kernel_rfl
theorem rg1_1_0 : rgS 1 1 0 = some true := by kernel_rfl
theorem rg1_1_1 : rgS 1 1 1 = some true := by kernel_rfl
theorem rg1_1_2 : rgS 1 1 2 = some true := by kernel_rfl
theorem rg1_2_0 : rgS 1 2 0 = some true := by kernel_rfl
theorem rg1_2_1 : rgS 1 2 1 = some true := by kernel_rfl
theorem rg1_2_2 : rgS 1 2 2 = some true := by kernel_rfl
theorem rg1_3_0 : rgS 1 3 0 = some true := by kernel_rfl
theorem rg1_3_1 : rgS 1 3 1 = some true := by kernel_rfl
theorem rg1_3_2 : rgS 1 3 2 = some true := by kernel_rfl
end Go.V.W
