/- has. Conditions: none. -/
import Derived.Test.YtkbhcdenfigpoaaRl
set_option linter.all false
namespace Go.Mach.F
open Go Go.Mach Go.Proofs.Try
--=set_option maxRecDepth 100000
def i_within : Nat := 111
noncomputable abbrev F_within : Func := f111
def kp_within : List (Nat × List Nat) := [(0, [0, 4, 8, 44, 48, 52]), (1, [24])]
noncomputable def e_within : Ent := inl [] prog (tabS []) kp_within 0 F_within
theorem s_within : EntOk prog i_within e_within := inl_ok tabS_nil mixed (c := bodyOf F_within) func111 (by kernel_rfl) (name_ok (by kernel_rfl))
def i_ihas : Nat := 147
noncomputable abbrev F_ihas : Func := f147
def kp_ihas : List (Nat × List Nat) := [(0, [0, 4, 8, 40, 44, 48, 60, 64, 68, 72, 76]), (1, [24])]
noncomputable def e_ihas : Ent := inl [] prog (tabS [(i_within, e_within)]) kp_ihas 0 F_ihas
theorem s_ihas : EntOk prog i_ihas e_ihas := inl_ok (tabS_cons s_within tabS_nil) mixed (c := bodyOf F_ihas) func147 (by kernel_rfl) (name_ok (by kernel_rfl))
def i_l2There : Nat := 144
noncomputable abbrev F_l2There : Func := f144
def kp_l2There : List (Nat × List Nat) := [(0, [0, 4, 8, 40, 44, 56, 60, 64, 68, 80, 84, 88, 92, 96, 100]), (1, [24])]
noncomputable def e_l2There : Ent := inl [] prog (tabS []) kp_l2There 0 F_l2There
theorem s_l2There : EntOk prog i_l2There e_l2There := inl_ok tabS_nil mixed (c := bodyOf F_l2There) func144 (by kernel_rfl) (name_ok (by kernel_rfl))
end Go.Mach.F