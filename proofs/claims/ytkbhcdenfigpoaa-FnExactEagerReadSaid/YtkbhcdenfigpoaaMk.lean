/- Marks: bounds; marks that are held. Conditions: none. -/
import Derived.Test.YtkbhcdenfigpoaaFo
set_option linter.all false
namespace Go.Mach.F
open Go Go.Mach Go.Proofs.Try
theorem markL_idem {α : Type} (f : α → Int → α) (c : α → Nat) (hf : ∀ x k, f (f x k) k = f x k) (hc : ∀ x k, c (f x k) = c x) : ∀ (l : List α) (k : Int), markL f c (markL f c l k) k = markL f c l k
  | [], k => rfl
  | x :: l, k => by
    simp only [markL, hf, hc]
    rw [markL_idem f c hf hc l]
theorem cntL_mark {α : Type} (f : α → Int → α) (c : α → Nat) (hc : ∀ x k, c (f x k) = c x) : ∀ (l : List α) (k : Int), cntL c (markL f c l k) = cntL c l
  | [], k => rfl
  | x :: l, k => by
    simp only [markL, cntL, hc]
    rw [cntL_mark f c hc l]
theorem cntL_lin {α : Type} (c d : α → Nat) (A B : Nat) : ∀ l : List α, (∀ x ∈ l, c x ≤ A + B * d x) → cntL c l ≤ A * l.length + B * cntL d l
  | [], _ => by simp [cntL]
  | x :: l, h => by
    have h1 := h x (List.mem_cons_self ..)
    have h2 := cntL_lin c d A B l fun y hy => h y (List.mem_cons_of_mem _ hy)
    simp only [cntL, List.length_cons, Nat.mul_add, Nat.mul_one]
    omega
theorem cb_LI (l : List Int) : cntL c1_LI l ≤ 16 * n_LI l := by
  rw [ct_LI]
  unfold n_LI
  omega
theorem beq_mkLI (l : List Int) (k : Int) : Nat.beq l.length (mk_LI l k).length = true := by rw [len_mkLI]; simp only [beq_self]
theorem mkmk_LI (l : List Int) (k : Int) : mk_LI (mk_LI l k) k = mk_LI l k := markL_idem m1_LI c1_LI (fun _ _ => rfl) (fun _ _ => rfl) l k
theorem ctmk_LI (l : List Int) (k : Int) : cntL c1_LI (mk_LI l k) = cntL c1_LI l := cntL_mark m1_LI c1_LI (fun _ _ => rfl) l k
theorem okqmk_LI {l : List Int} {k : Int} (h : okq_LI l) : okq_LI (mk_LI l k) := by unfold okq_LI; rw [len_mkLI]; exact h
theorem hdmk_LI (l : List Int) (k : Int) : f_hdLI (mk_LI l k, k) = k + cntL c1_LI l := by rw [y_hdLI (mkmk_LI l k).symm, ctmk_LI]
theorem cb_LB (l : List UInt8) : cntL c1_LB l ≤ 16 * n_LB l := by
  rw [ct_LB]
  unfold n_LB
  omega
theorem beq_mkLB (l : List UInt8) (k : Int) : Nat.beq l.length (mk_LB l k).length = true := by rw [len_mkLB]; simp only [beq_self]
theorem mkmk_LB (l : List UInt8) (k : Int) : mk_LB (mk_LB l k) k = mk_LB l k := markL_idem m1_LB c1_LB (fun _ _ => rfl) (fun _ _ => rfl) l k
theorem ctmk_LB (l : List UInt8) (k : Int) : cntL c1_LB (mk_LB l k) = cntL c1_LB l := cntL_mark m1_LB c1_LB (fun _ _ => rfl) l k
theorem okqmk_LB {l : List UInt8} {k : Int} (h : okq_LB l) : okq_LB (mk_LB l k) := by unfold okq_LB; rw [len_mkLB]; exact h
theorem hdmk_LB (l : List UInt8) (k : Int) : f_hdLB (mk_LB l k, k) = k + cntL c1_LB l := by rw [y_hdLB (mkmk_LB l k).symm, ctmk_LB]
theorem cb_HdS (l : List Hd) : cntL c1_HdS l ≤ 16 * n_HdS l := by
  have := cntL_lin c1_HdS (fun _ => 0) 2 0 l fun x _ => by show c1_HdS x ≤ _; unfold c1_HdS; omega
  unfold n_HdS
  omega
theorem beq_mkHdS (l : List Hd) (k : Int) : Nat.beq l.length (mk_HdS l k).length = true := by rw [len_mkHdS]; simp only [beq_self]
theorem mkmk_HdS (l : List Hd) (k : Int) : mk_HdS (mk_HdS l k) k = mk_HdS l k := markL_idem m1_HdS c1_HdS (fun _ _ => rfl) (fun _ _ => rfl) l k
theorem ctmk_HdS (l : List Hd) (k : Int) : cntL c1_HdS (mk_HdS l k) = cntL c1_HdS l := cntL_mark m1_HdS c1_HdS (fun _ _ => rfl) l k
theorem okqmk_HdS {l : List Hd} {k : Int} (h : okq_HdS l) : okq_HdS (mk_HdS l k) := ⟨by rw [len_mkHdS]; exact h.1, fun _ _ => trivial⟩
theorem hdmk_HdS (l : List Hd) (k : Int) : f_hdHdS (mk_HdS l k, k) = k + cntL c1_HdS l := by rw [y_hdHdS (mkmk_HdS l k).symm, ctmk_HdS]
theorem cb_SfS (l : List Sf) : cntL c1_SfS l ≤ 16 * n_SfS l := by
  have := cntL_lin c1_SfS n1_SfS 0 16 l fun x _ => by have := cb_LB x.b; show c1_SfS x ≤ _; unfold c1_SfS n1_SfS; omega
  unfold n_SfS
  omega
theorem beq_mkSfS (l : List Sf) (k : Int) : Nat.beq l.length (mk_SfS l k).length = true := by rw [len_mkSfS]; simp only [beq_self]
theorem ct1_SfS (x : Sf) (k : Int) : c1_SfS (m1_SfS x k) = c1_SfS x := by simp only [c1_SfS, m1_SfS, mkmk_LB, ctmk_LB]
theorem mm1_SfS (x : Sf) (k : Int) : m1_SfS (m1_SfS x k) k = m1_SfS x k := by simp only [m1_SfS, mkmk_LB, ctmk_LB]
theorem mkmk_SfS (l : List Sf) (k : Int) : mk_SfS (mk_SfS l k) k = mk_SfS l k := markL_idem m1_SfS c1_SfS (fun x k => mm1_SfS x k) (fun x k => ct1_SfS x k) l k
theorem ctmk_SfS (l : List Sf) (k : Int) : cntL c1_SfS (mk_SfS l k) = cntL c1_SfS l := cntL_mark m1_SfS c1_SfS (fun x k => ct1_SfS x k) l k
theorem okqmk_SfS {l : List Sf} {k : Int} (h : okq_SfS l) : okq_SfS (mk_SfS l k) := ⟨by rw [len_mkSfS]; exact h.1, fun x hx => by
    obtain ⟨i, hi, e⟩ := List.getElem_of_mem hx
    have hi' : i < l.length := by rw [len_mkSfS] at hi; exact hi
    have hg := markL_get m1_SfS c1_SfS l k (List.getElem?_eq_getElem hi')
    have he : (mk_SfS l k)[i]? = some x := by rw [List.getElem?_eq_getElem hi, e]
    rw [show (mk_SfS l k)[i]? = (markL m1_SfS c1_SfS l k)[i]? from rfl, hg] at he
    obtain rfl := Option.some.inj he
    have hy : l[i] ∈ l := List.getElem_mem hi'
    exact okqmk_LB ((h.2 _ hy))⟩
theorem hdmk_SfS (l : List Sf) (k : Int) : f_hdSfS (mk_SfS l k, k) = k + cntL c1_SfS l := by rw [y_hdSfS (mkmk_SfS l k).symm, ctmk_SfS]
theorem cb_ThS (l : List Th) : cntL c1_ThS l ≤ 16 * n_ThS l := by
  have := cntL_lin c1_ThS (fun _ => 0) 3 0 l fun x _ => by show c1_ThS x ≤ _; unfold c1_ThS; omega
  unfold n_ThS
  omega
theorem beq_mkThS (l : List Th) (k : Int) : Nat.beq l.length (mk_ThS l k).length = true := by rw [len_mkThS]; simp only [beq_self]
theorem cb_NdS (l : List Nd) : cntL c1_NdS l ≤ 16 * n_NdS l := by
  have := cntL_lin c1_NdS n1_NdS 10 16 l fun x _ => by have := cb_LI x.chunks; have := cb_ThS x.things; have := cb_LI x.tags; show c1_NdS x ≤ _; unfold c1_NdS n1_NdS; omega
  unfold n_NdS
  omega
theorem beq_mkNdS (l : List Nd) (k : Int) : Nat.beq l.length (mk_NdS l k).length = true := by rw [len_mkNdS]; simp only [beq_self]
theorem cb_WsS (l : List Ws) : cntL c1_WsS l ≤ 16 * n_WsS l := by
  have := cntL_lin c1_WsS n1_WsS 3 16 l fun x _ => by have := cb_LI x.tags; have := cb_LI x.chunks; show c1_WsS x ≤ _; unfold c1_WsS n1_WsS; omega
  unfold n_WsS
  omega
theorem beq_mkWsS (l : List Ws) (k : Int) : Nat.beq l.length (mk_WsS l k).length = true := by rw [len_mkWsS]; simp only [beq_self]
end Go.Mach.F