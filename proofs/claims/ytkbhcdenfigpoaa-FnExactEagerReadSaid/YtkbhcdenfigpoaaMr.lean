/- Marks of rooms: bounds; marks that are held. Conditions: none. -/
import Derived.Test.YtkbhcdenfigpoaaMk
import Derived.Test.YtkbhcdenfigpoaaFm
set_option linter.all false
namespace Go.Mach.F
open Go Go.Mach Go.Proofs.Try
theorem cb_RmS (l : List Rm) : cntL c1_RmS l ≤ 16 * n_RmS l := by
  have := cntL_lin c1_RmS n1_RmS 8 16 l fun x _ => by have := cb_HdS x.kids; have := cb_SfS x.things; have := cb_LI x.tags; show c1_RmS x ≤ _; unfold c1_RmS n1_RmS; omega
  unfold n_RmS
  omega
theorem beq_mkRmS (l : List Rm) (k : Int) : Nat.beq l.length (mk_RmS l k).length = true := by rw [len_mkRmS]; simp only [beq_self]
theorem ct1_RmS (x : Rm) (k : Int) : c1_RmS (m1_RmS x k) = c1_RmS x := by simp only [c1_RmS, m1_RmS, mkmk_HdS, ctmk_HdS, mkmk_SfS, ctmk_SfS, mkmk_LI, ctmk_LI]
theorem mm1_RmS (x : Rm) (k : Int) : m1_RmS (m1_RmS x k) k = m1_RmS x k := by simp only [m1_RmS, mkmk_HdS, ctmk_HdS, mkmk_SfS, ctmk_SfS, mkmk_LI, ctmk_LI]
theorem mkmk_RmS (l : List Rm) (k : Int) : mk_RmS (mk_RmS l k) k = mk_RmS l k := markL_idem m1_RmS c1_RmS (fun x k => mm1_RmS x k) (fun x k => ct1_RmS x k) l k
theorem ctmk_RmS (l : List Rm) (k : Int) : cntL c1_RmS (mk_RmS l k) = cntL c1_RmS l := cntL_mark m1_RmS c1_RmS (fun x k => ct1_RmS x k) l k
theorem okqmk_RmS {l : List Rm} {k : Int} (h : okq_RmS l) : okq_RmS (mk_RmS l k) := ⟨by rw [len_mkRmS]; exact h.1, fun x hx => by
    obtain ⟨i, hi, e⟩ := List.getElem_of_mem hx
    have hi' : i < l.length := by rw [len_mkRmS] at hi; exact hi
    have hg := markL_get m1_RmS c1_RmS l k (List.getElem?_eq_getElem hi')
    have he : (mk_RmS l k)[i]? = some x := by rw [List.getElem?_eq_getElem hi, e]
    rw [show (mk_RmS l k)[i]? = (markL m1_RmS c1_RmS l k)[i]? from rfl, hg] at he
    obtain rfl := Option.some.inj he
    have hy : l[i] ∈ l := List.getElem_mem hi'
    exact ⟨okqmk_HdS ((h.2 _ hy).1), okqmk_SfS ((h.2 _ hy).2.1), okqmk_LI ((h.2 _ hy).2.2)⟩⟩
theorem hdmk_RmS (l : List Rm) (k : Int) : f_hdRmS (mk_RmS l k, k) = k + cntL c1_RmS l := by rw [y_hdRmS (mkmk_RmS l k).symm, ctmk_RmS]
end Go.Mach.F