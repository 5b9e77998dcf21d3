/- The row FnExactBehind. Conditions: none. -/
import Derived.Test.YtamalkcgebjphaaFb
import Derived.Test.YtamalkcgebjphaaRows
import Derived.WalkKit
import Derived.ProofKit
import Derived.OpenShut
import Derived.ShutString
import Derived.ChangeOld
import Derived.Below
import Derived.SizedLaws
namespace Go.Mach.F
open Go Go.Mach Go.Proofs.Try
theorem Grew.below {w w' : World} (h : Grew w w') : RowKit.Below w.heap.size w w' := ⟨h.os, h.tape, h.output, h.size, h.old⟩
theorem arg_ints {H : Type} {enc : TypeId × Value → H} {W : World} {t e : TypeId} {v : Value} {d : DataW H} {ps : List MemPlace} {a : Option Addr} {len cap : Nat} (ht : prog.underlying t = some (.slice e)) (he : prog.underlying e = some (.int .i64)) (hc : prog.cellsOf e = 1)
    (h : DataW.Trod enc prog W 0 (fun _ => true) true t v d ps) (hv : v = .slice a len cap) (hlt : ∀ x ∈ ps, x.block < W.heap.size) : ∃ l : List Int, ArgRow W (aT (eInts l)) v := by
  obtain ⟨fuel, hf⟩ := h
  subst hv
  rcases Go.ChangeShapes.open_ints ht he hc hf with ⟨hcs, _⟩ | ⟨x, l, c, zs, hcs, _, hl, hm, hz, hx, hcell, hwz⟩
  · simp [Value.cells] at hcs
    obtain ⟨rfl, rfl, rfl⟩ := hcs
    exact ⟨[], none, 0, rfl, Nat.le_refl _, fun h => absurd h (Nat.lt_irrefl 0)⟩
  · simp [Value.cells] at hcs
    obtain ⟨rfl, rfl, rfl⟩ := hcs
    have hz' : zs.length = cap := by simpa using hz
    have hlen : (zs.take len).length = len := by simp; omega
    refine ⟨zs.take len, some x, cap, by rw [hlen], by rw [hlen]; exact hl, fun h0 => ?_⟩
    rw [hlen] at h0
    have hspot := World.cell?_spot (hcell 0 (by omega))
    obtain ⟨b, o, sp⟩ := x
    simp only [Addr.add] at hspot
    subst hspot
    have hb : b < W.heap.size := by
      have hps : ps = MemPlace.row ⟨b, o, none⟩ zs.length := congrArg Prod.snd hx
      exact hlt (.cell b (o + 0)) (by rw [hps]; exact List.mem_map.2 ⟨0, by simp; omega, rfl⟩)
    refine ⟨b, o, rfl, callee_N hb, fun j hj k hk => ?_⟩
    rw [hlen] at hj
    have hk0 : k = 0 := by omega
    subst hk0
    refine ⟨.int .i64 (zs.getD j 0), ?_, ?_⟩
    · have := hcell j (by omega)
      have e0 : (⟨b, o, none⟩ : Addr).add j = ⟨b, o + j, none⟩ := by
        unfold Addr.add
        by_cases h0 : j = 0
        · simp [h0]
        · simp [h0]
      rw [e0] at this
      have e1 : o + (j * 1 + 0) = o + j := by omega
      rw [e1]
      exact this
    · have hj' : j < (zs.take len).length := by omega
      rw [atI hj']
      have : zs.getD j 0 = (zs.take len)[j] := by
        rw [List.getElem_take, List.getD_eq_getElem?_getD, List.getElem?_eq_getElem (by omega)]
        rfl
      rw [this]
      rfl
theorem res_bool {w w' : World} {b : Bool} {v : Value} (h : ResRel w w' (erB b) v) : v = .bool b := by
  obtain ⟨γ, _, _, h⟩ := h
  exact h (calleeEnv w) (fun _ => noG) (fun _ => 0)
theorem args2 {W : World} {r0 r1 : Row} {v0 v1 : Value} (h0 : ArgRow W r0 v0) (h1 : ArgRow W r1 v1) : ArgsRel W [r0, r1] #[v0, v1] := by
  refine ⟨rfl, fun i row hi => ?_⟩
  match i with
  | 0 => simp at hi; subst hi; exact ⟨v0, rfl, h0⟩
  | 1 => simp at hi; subst hi; exact ⟨v1, rfl, h1⟩
  | i + 2 => simp at hi
end Go.Mach.F
namespace Go.Proofs.Ytamalkcgebjphaa.fnExactBehind
open Go.ChangeShapes Go.WideShapes Go.ChangeAt Go.RowKit
open Go.ChangeMaps (open_string shut_string)
set_option linter.unusedVariables false
theorem own : ownKnob Try.prog.godebug = none := by kernel_rfl
theorem laidOut : laidOutB Try.prog = true := by kernel_rfl
set_option maxRecDepth 100000 in
theorem lifted (os : Os) (started : os.Started) (H : Type) (enc : TypeId × Value → H) :
    ReturnsInHanded {} Try.checked os 3 .any (Rows.fnExactBehindSpec.pre6 enc Try.prog Try.f3 Rows.fnExactBehindRow.domain false) (Rows.fnExactBehindSpec.post enc Try.prog Try.f3 false true false false) := by
  refine returnsInHanded_of_change_sized (C := Try.checked) own started (by kernel_rfl) Try.func3
    (ChangeSpec.witness6 (enc := enc) (C := Try.checked) false ⟨#[], #[.slice none 0 0, .slice none 0 0], []⟩ 8 (by kernel_rfl) (by kernel_rfl) (by kernel_rfl) (by kernel_rfl)) ?_
  intro W base args ds gs before hval0 hW hcnd hsz0 _
  have hval : ∀ (j : Nat) t v, Try.f3.params[j]? = some t → args[j]? = some v → Value.okWide Try.prog W .any base t v := hval0
  have hW' := hW
  obtain ⟨p, q, hA0, hV, rfl, hfz, hnd⟩ := hW
  have hA : DataW.TrodAll enc Try.prog W 0 (fun _ => true) true Try.f3.params.toList args.toList ds p := hA0
  rw [Try.params3] at hA hval
  obtain ⟨v0, vs0, d0, ds0, p0, q0, hargs, rfl, rfl, h0, r0⟩ := trodAll_cons hA
  obtain ⟨v1, vs1, d1, ds1, p1, q1, rfl, rfl, rfl, h1, r1⟩ := trodAll_cons r0
  obtain ⟨rfl, rfl, rfl⟩ := trodAll_nil r1
  obtain rfl : args = #[v0, v1] := by cases args; simp_all
  obtain ⟨rfl, rfl⟩ := trodVars_none hV
  obtain ⟨a0, len0, cap0, e0⟩ := okWide_slice Try.underlying22 (hval 0 22 v0 rfl rfl)
  have lt0 : ∀ x ∈ p0, x.block < W.heap.size := by obtain ⟨m, hm⟩ := h0; exact DataW.trod_lt m _ _ _ hm
  obtain ⟨a1, len1, cap1, e1⟩ := okWide_slice Try.underlying22 (hval 1 22 v1 rfl rfl)
  have lt1 : ∀ x ∈ p1, x.block < W.heap.size := by obtain ⟨m, hm⟩ := h1; exact DataW.trod_lt m _ _ _ hm
  obtain ⟨l0, ha0⟩ := Mach.F.arg_ints Try.underlying22 Try.underlying3 (by kernel_rfl) h0 e0 lt0
  obtain ⟨l1, ha1⟩ := Mach.F.arg_ints Try.underlying22 Try.underlying3 (by kernel_rfl) h1 e1 lt1
  clear hA0 hval0 hsz0
  refine ((Mach.F.s3 l0 l1).2 W #[v0, v1] (Mach.F.args2 ha0 ha1)).mono fun e W' ⟨v, he, hg, hres⟩ => ?_
  have hv := Mach.F.res_bool hres
  subst hv
  subst he
  have bel := Mach.F.Grew.below hg
  exact ⟨_, rfl, _, _, _, [], _, [], hW', trodAll_mk1 (shut_bool Try.underlying4 _), (trodAll_cons_mk (Below.trod laidOut (by kernel_rfl) (of_decide_eq_true (by kernel_rfl)) h0 bel lt0) (trodAll_cons_mk (Below.trod laidOut (by kernel_rfl) (of_decide_eq_true (by kernel_rfl)) h1 bel lt1) trodAll_mk0)), rfl, bel.frame _, fun h => by cases h⟩
theorem over : Rows.fnExactBehindRow.holds Try.pinned (OpenSpec.ofChange Rows.fnExactBehindSpec) :=
  OpenClaim.holds_of_wide 3 Try.f3 rfl rfl rfl rfl rfl rfl rfl ⟨rfl, rfl, rfl, rfl, rfl⟩ rfl rfl rfl rfl rfl (by kernel_rfl) Try.func3 (by kernel_rfl)
    (of_decide_eq_true (by kernel_rfl)) (by unfold Func.isWrapper; first | (rw [if_pos (by decide +kernel)]; kernel_rfl) | (rw [if_neg (by decide +kernel)]; exact ⟨rfl, rfl⟩))
    (fun os started H enc _ => lifted os started H enc)
theorem proved : Rows.FnExactBehindSaid := over
#print axioms proved
end Go.Proofs.Ytamalkcgebjphaa.fnExactBehind
