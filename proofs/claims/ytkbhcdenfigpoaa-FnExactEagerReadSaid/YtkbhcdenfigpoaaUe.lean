/- What EagerRead gives is small. Conditions: none. -/
import Derived.Test.YtkbhcdenfigpoaaUd
import Derived.Test.YtkbhcdenfigpoaaRy
set_option linter.all false
namespace Go.Mach.F
open Go Go.Mach Go.Proofs.Try
theorem erd_len {m : Ml} {r : Rf} {k c : Int} (hr : ∀ y ∈ m.rooms, ok_HdS y.kids ∧ ok_SfS y.things ∧ ok_LI y.tags) : (erd m r k c).1.length ≤ LM := by
  unfold erd
  by_cases e : (thg m r).2 = 0
  · have hk := thg_ok e
    have hx := getD_get hk.1.2
    have ht := things_get hk.2.2
    have hy := hr _ (List.mem_of_getElem? hx)
    have hl : (thB m r).length ≤ LM := hy.2.1.2 _ (List.mem_of_getElem? ht)
    simp only [e, decide_true, cond_true]
    unfold gat
    cases ((decide (0 ≤ c) && decide (c ≤ ((thB m r).length : Int))) && (decide (0 ≤ k) && decide (k ≤ ((thB m r).length : Int) - c))) with
    | false => exact Nat.zero_le _
    | true =>
      simp only [cond_true, List.length_take, List.length_drop]
      omega
  · simp only [e, decide_false, cond_false]
    exact Nat.zero_le _
end Go.Mach.F