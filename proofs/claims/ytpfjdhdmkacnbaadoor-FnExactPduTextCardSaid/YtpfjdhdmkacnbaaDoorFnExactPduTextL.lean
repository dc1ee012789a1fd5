/- The law FnExactPduText: part of the proof that for every input it returns true. No condition. -/
import Derived.Test.YtpfjdhdmkacnbaaDoorFnExactPduTextB
namespace Go.V.W
set_option linter.unusedVariables false
set_option linter.unusedSimpArgs false
theorem fnExactPduText_pure (p : Pdu) (h : Cs.wf cPdu p) : laws_FnExactPduText p = some true := by
  have hw : PLe maxLen p := by
    simp only [cPdu, Cs.wf, CT.wf] at h
    exact ⟨h.2.2.2.2.1, fun x hx => bind_wf (h.2.2.2.2.2 x hx)⟩
  obtain ⟨r, h1, h2⟩ := szPdu (p := p) (left := 1048576) ⟨by omega, by omega⟩ hw
  unfold laws_FnExactPduText
  rw [h1, Option.bind_some]
  rcases h2 with rfl | ⟨k1, k2, k3⟩
  · rfl
  · rw [dnlt (by omega), cond_false, toPdu k3, Option.bind_some, pduTextS k3, Option.bind_some, Option.bind_some, pduTextT k3, Option.bind_some]
    simp [eqPdu k3]
end Go.V.W

