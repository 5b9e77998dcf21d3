/- What RoomAt gives is small. Conditions: none. -/
import Derived.Test.YtkbhcdenfigpoaaRd
import Derived.Test.YtkbhcdenfigpoaaRy
set_option linter.all false
namespace Go.Mach.F
open Go Go.Mach Go.Proofs.Try
theorem roomAt_ok {l : List Rm} {h : Hd} (hq : okq_RmS l) : (okq_HdS (roomAt l h).kids ∧ okq_SfS (roomAt l h).things ∧ okq_LI (roomAt l h).tags) ∧ n_HdS (roomAt l h).kids + n_SfS (roomAt l h).things + n_LI (roomAt l h).tags ≤ n_RmS l := by
  unfold roomAt
  by_cases e : rof l h < 0
  · simp only [e, decide_true, cond_true]
    refine ⟨⟨⟨Nat.zero_le _, fun x hx => by cases hx⟩, ⟨Nat.zero_le _, fun x hx => by cases hx⟩, Nat.zero_le _⟩, ?_⟩
    exact Nat.zero_le _
  · have e1 := rof_lt e
    obtain ⟨r, hre⟩ : ∃ r, r = l.getD (rof l h).toNat zRm := ⟨_, rfl⟩
    have hx := getD_get e1.2
    rw [← hre] at hx
    simp only [e, decide_false, cond_false]
    rw [← hre]
    have hm := List.mem_of_getElem? hx
    refine ⟨hq.2 _ hm, ?_⟩
    have := cntL_mem n1_RmS hm
    have e2 : n1_RmS r = n_HdS r.kids + n_SfS r.things + n_LI r.tags := rfl
    unfold n_RmS
    omega
end Go.Mach.F