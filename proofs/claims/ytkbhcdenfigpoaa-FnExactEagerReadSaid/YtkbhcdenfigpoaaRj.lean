/- Refs. Conditions: none. -/
import Derived.Test.YtkbhcdenfigpoaaRd
set_option linter.all false
namespace Go.Mach.F
open Go Go.Mach Go.Proofs.Try
--=set_option maxRecDepth 100000
def i_iHOk : Nat := 163
noncomputable abbrev F_iHOk : Func := f163
def kp_iHOk : List (Nat × List Nat) := [(0, [4, 5, 28, 32, 36]), (1, [8])]
noncomputable def e_iHOk : Ent := inl [] prog (tabS []) kp_iHOk 0 F_iHOk
theorem s_iHOk : EntOk prog i_iHOk e_iHOk := inl_ok tabS_nil mixed (c := bodyOf F_iHOk) func163 (by kernel_rfl) (name_ok (by kernel_rfl))
def i_sHOk : Nat := 162
noncomputable abbrev F_sHOk : Func := f162
def kp_sHOk : List (Nat × List Nat) := [(0, [4, 5, 28, 32, 36]), (1, [8])]
noncomputable def e_sHOk : Ent := inl [] prog (tabS []) kp_sHOk 0 F_sHOk
theorem s_sHOk : EntOk prog i_sHOk e_sHOk := inl_ok tabS_nil mixed (c := bodyOf F_sHOk) func162 (by kernel_rfl) (name_ok (by kernel_rfl))
def i_iROk : Nat := 146
noncomputable abbrev F_iROk : Func := f146
def kp_iROk : List (Nat × List Nat) := [(0, [4, 5, 28, 32, 36, 48, 52, 56]), (1, [8])]
noncomputable def e_iROk : Ent := inl [] prog (tabS [(i_iHOk, e_iHOk)]) kp_iROk 0 F_iROk
theorem s_iROk : EntOk prog i_iROk e_iROk := inl_ok (tabS_cons s_iHOk tabS_nil) mixed (c := bodyOf F_iROk) func146 (by kernel_rfl) (name_ok (by kernel_rfl))
def i_sROk : Nat := 143
noncomputable abbrev F_sROk : Func := f143
def kp_sROk : List (Nat × List Nat) := [(0, [4, 5, 28, 32, 36, 48, 52, 56]), (1, [8])]
noncomputable def e_sROk : Ent := inl [] prog (tabS [(i_sHOk, e_sHOk)]) kp_sROk 0 F_sROk
theorem s_sROk : EntOk prog i_sROk e_sROk := inl_ok (tabS_cons s_sHOk tabS_nil) mixed (c := bodyOf F_sROk) func143 (by kernel_rfl) (name_ok (by kernel_rfl))
end Go.Mach.F