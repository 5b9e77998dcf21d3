/- Small sizes: the conditions of copies and comparisons. Conditions: none. -/
import Derived.Test.YtkbhcdenfigpoaaHa
set_option linter.all false
namespace Go.Mach.F
open Go Go.Mach Go.Proofs.Try
--=set_option maxRecDepth 100000
theorem cntL_mem {α : Type} (c : α → Nat) {x : α} : ∀ {l : List α}, x ∈ l → c x ≤ cntL c l
  | y :: l, h => by
    rcases List.mem_cons.1 h with rfl | h
    · unfold cntL; omega
    · have := cntL_mem c h
      unfold cntL
      omega
theorem okn_LI {l : List Int} (h : (n_LI l : Int) ≤ 1048576) : ok_LI l ∧ okq_LI l := by
  have := lm
  have := bm
  unfold n_LI at h
  exact ⟨by unfold ok_LI; omega, by unfold okq_LI; omega⟩
theorem okn_LB {l : List UInt8} (h : (n_LB l : Int) ≤ 1048576) : ok_LB l ∧ okq_LB l := by
  have := lm
  have := bm
  unfold n_LB at h
  exact ⟨by unfold ok_LB; omega, by unfold okq_LB; omega⟩
theorem okn_HdS {l : List Hd} (h : (n_HdS l : Int) ≤ 1048576) : ok_HdS l ∧ okq_HdS l := by
  have := lm
  have := bm
  unfold n_HdS at h
  exact ⟨⟨by omega, fun _ _ => trivial⟩, ⟨by omega, fun _ _ => trivial⟩⟩
theorem okn_SfS {l : List Sf} (h : (n_SfS l : Int) ≤ 1048576) : ok_SfS l ∧ okq_SfS l := by
  have := lm
  have := bm
  have e : n_SfS l = l.length + cntL n1_SfS l := rfl
  exact ⟨⟨by omega, fun x hx => (okn_LB (l := x.b) (by have := cntL_mem n1_SfS hx; have : n1_SfS x = n_LB x.b := rfl; omega)).1⟩, ⟨by omega, fun x hx => (okn_LB (l := x.b) (by have := cntL_mem n1_SfS hx; have : n1_SfS x = n_LB x.b := rfl; omega)).2⟩⟩
theorem okn_RmS {l : List Rm} (h : (n_RmS l : Int) ≤ 1048576) : ok_RmS l ∧ okq_RmS l := by
  have := lm
  have := bm
  have e : n_RmS l = l.length + cntL n1_RmS l := rfl
  exact ⟨⟨by omega, fun x hx => ⟨(okn_HdS (l := x.kids) (by have := cntL_mem n1_RmS hx; have : n1_RmS x = n_HdS x.kids + n_SfS x.things + n_LI x.tags := rfl; omega)).1, (okn_SfS (l := x.things) (by have := cntL_mem n1_RmS hx; have : n1_RmS x = n_HdS x.kids + n_SfS x.things + n_LI x.tags := rfl; omega)).1, (okn_LI (l := x.tags) (by have := cntL_mem n1_RmS hx; have : n1_RmS x = n_HdS x.kids + n_SfS x.things + n_LI x.tags := rfl; omega)).1⟩⟩, ⟨by omega, fun x hx => ⟨(okn_HdS (l := x.kids) (by have := cntL_mem n1_RmS hx; have : n1_RmS x = n_HdS x.kids + n_SfS x.things + n_LI x.tags := rfl; omega)).2, (okn_SfS (l := x.things) (by have := cntL_mem n1_RmS hx; have : n1_RmS x = n_HdS x.kids + n_SfS x.things + n_LI x.tags := rfl; omega)).2, (okn_LI (l := x.tags) (by have := cntL_mem n1_RmS hx; have : n1_RmS x = n_HdS x.kids + n_SfS x.things + n_LI x.tags := rfl; omega)).2⟩⟩⟩
end Go.Mach.F