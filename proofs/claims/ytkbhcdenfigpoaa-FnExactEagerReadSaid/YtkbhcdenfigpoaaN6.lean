/- How a call begins; a whole function is sound. Conditions: none (lemmas). -/
import Derived.Test.YtkbhcdenfigpoaaMc
set_option linter.all false
namespace Go.Mach
section
variable {P : Program} {φ : Sems}
theorem memN13 {t : Nat} : (Nat.beq t 1 || Nat.beq t 3) = true ↔ (t = 1 ∨ t = 3) := by
  rw [Bool.or_eq_true]
  exact ⟨fun h => h.imp beq_eq beq_eq, fun h => h.imp (fun e => by rw [e]; rfl) fun e => by rw [e]; rfl⟩
theorem cond13 {α : Type} {t : Nat} {x y : α} : (bif Nat.beq t 1 || Nat.beq t 3 then x else y) = if t = 1 ∨ t = 3 then x else y := by
  cases h : (Nat.beq t 1 || Nat.beq t 3) with
  | true => rw [if_pos (memN13.1 h)]; rfl
  | false => rw [if_neg fun e => by rw [memN13.2 e] at h; cases h]; rfl
theorem condB {α : Type} {t u : Nat} {x y : α} : (bif Nat.beq t u then x else y) = if t = u then x else y := by
  by_cases e : t = u
  · subst e; rw [beqT, if_pos rfl]; rfl
  · rw [beqF e, if_neg e]; rfl
theorem argRow_eq (nt i : Nat) (x : Arg) : argRow nt i x = if x.1 = 1 ∨ x.1 = 3 then (x.2.1, mapI (fun k c => viewC (ext i) z0 [0, k] c) 0 x.2.2) else if x.1 = 2 then (false, [.pt (.ptr (box (nt + i)) 0 [] x.2.2.length 0 0)]) else x.2 := by
  unfold argRow
  rw [cond13, condB]
theorem argRoot_eq (nt i : Nat) (x : Arg) (σ : St) : argRoot nt i x σ = if x.1 = 1 ∨ x.1 = 3 then (ext i, ⟨z0, [x.2]⟩) :: σ else if x.1 = 2 then (box (nt + i), ⟨z0, [x.2]⟩) :: σ else σ := by
  unfold argRoot
  rw [cond13, condB]
theorem get_cons (r r' : Nat) (c : Ct) (σ : St) : St.get ((r, c) :: σ) r' = if r = r' then c else St.get σ r' := by
  by_cases e : r = r'
  · subst e; simp [St.get, beqT]
  · simp [St.get, beqF e, e]
theorem get_initA (nt : Nat) : ∀ (args : List Arg) (i r : Nat), (initA nt i args).get r = ⟨z0, []⟩ ∨ ∃ j x, args[j]? = some x ∧ ((r = slot (i + j) ∧ (initA nt i args).get r = ⟨z0, [argRow nt (i + j) x]⟩) ∨
    (r = ext (i + j) ∧ (x.1 = 1 ∨ x.1 = 3) ∧ (initA nt i args).get r = ⟨z0, [x.2]⟩) ∨ (r = box (nt + (i + j)) ∧ x.1 = 2 ∧ (initA nt i args).get r = ⟨z0, [x.2]⟩))
  | [], i, r => .inl rfl
  | x :: l, i, r => by
    have tail : (initA nt (i + 1) l).get r = ⟨z0, []⟩ ∨ ∃ j y, (x :: l)[j]? = some y ∧ ((r = slot (i + j) ∧ (initA nt (i + 1) l).get r = ⟨z0, [argRow nt (i + j) y]⟩) ∨
        (r = ext (i + j) ∧ (y.1 = 1 ∨ y.1 = 3) ∧ (initA nt (i + 1) l).get r = ⟨z0, [y.2]⟩) ∨ (r = box (nt + (i + j)) ∧ y.1 = 2 ∧ (initA nt (i + 1) l).get r = ⟨z0, [y.2]⟩)) := by
      rcases get_initA nt l (i + 1) r with h | ⟨j, y, h1, h2⟩
      · exact .inl h
      · have e : i + 1 + j = i + (j + 1) := by omega
        rw [e] at h2
        exact .inr ⟨j + 1, y, by simpa using h1, h2⟩
    simp only [initA, get_cons, argRoot_eq]
    by_cases e1 : slot i = r
    · rw [if_pos e1]
      exact .inr ⟨0, x, rfl, .inl ⟨e1.symm, rfl⟩⟩
    · rw [if_neg e1]
      split
      · rename_i ht
        rw [get_cons]
        by_cases e2 : ext i = r
        · rw [if_pos e2]
          exact .inr ⟨0, x, rfl, .inr (.inl ⟨e2.symm, ht, rfl⟩)⟩
        · rw [if_neg e2]
          exact tail
      · split
        · rename_i _ ht
          rw [get_cons]
          by_cases e2 : box (nt + i) = r
          · rw [if_pos e2]
            exact .inr ⟨0, x, rfl, .inr (.inr ⟨e2.symm, ht, rfl⟩)⟩
          · rw [if_neg e2]
            exact tail
        · exact tail
theorem keys_initA (nt : Nat) : ∀ (args : List Arg) (i : Nat), ((initA nt i args).map (·.1)).Nodup ∧ ∀ r, r ∈ (initA nt i args).map (·.1) → ∃ j, j < args.length ∧ (r = slot (i + j) ∨ r = ext (i + j) ∨ r = box (nt + (i + j)))
  | [], i => ⟨by simp [initA], fun r hr => by simp [initA] at hr⟩
  | x :: l, i => by
    obtain ⟨h1, h2⟩ := keys_initA nt l (i + 1)
    have h3 : ∀ r, r ∈ (initA nt (i + 1) l).map (·.1) → ∃ j, j < (x :: l).length ∧ j ≠ 0 ∧ (r = slot (i + j) ∨ r = ext (i + j) ∨ r = box (nt + (i + j))) := fun r hr => by
      obtain ⟨j, hj, hh⟩ := h2 r hr
      have e : i + 1 + j = i + (j + 1) := by omega
      rw [e] at hh
      exact ⟨j + 1, by simp; omega, by omega, hh⟩
    have nslot : slot i ∉ (initA nt (i + 1) l).map (·.1) := fun hm => by
      obtain ⟨j, _, hj, h | h | h⟩ := h3 _ hm
      · have := slot_inj h; omega
      · exact slot_ne_ext _ _ h
      · exact slot_ne_box _ _ h
    have next : ext i ∉ (initA nt (i + 1) l).map (·.1) := fun hm => by
      obtain ⟨j, _, hj, h | h | h⟩ := h3 _ hm
      · exact slot_ne_ext _ _ h.symm
      · have := ext_inj h; omega
      · exact box_ne_ext _ _ h.symm
    have nbox : box (nt + i) ∉ (initA nt (i + 1) l).map (·.1) := fun hm => by
      obtain ⟨j, _, hj, h | h | h⟩ := h3 _ hm
      · exact slot_ne_box _ _ h.symm
      · exact box_ne_ext _ _ h
      · have := box_inj h; omega
    have tl : ∀ r, r ∈ (initA nt (i + 1) l).map (·.1) → ∃ j, j < (x :: l).length ∧ (r = slot (i + j) ∨ r = ext (i + j) ∨ r = box (nt + (i + j))) := fun r hr => by
      obtain ⟨j, hj, _, hh⟩ := h3 r hr
      exact ⟨j, hj, hh⟩
    simp only [initA, argRoot_eq]
    split
    · simp only [List.map_cons, List.nodup_cons, List.mem_cons]
      refine ⟨⟨fun h => h.elim (slot_ne_ext _ _) nslot, next, h1⟩, fun r hr => ?_⟩
      rcases hr with rfl | rfl | hr
      · exact ⟨0, by simp, .inl rfl⟩
      · exact ⟨0, by simp, .inr (.inl rfl)⟩
      · exact tl r hr
    · split
      · simp only [List.map_cons, List.nodup_cons, List.mem_cons]
        refine ⟨⟨fun h => h.elim (slot_ne_box _ _) nslot, nbox, h1⟩, fun r hr => ?_⟩
        rcases hr with rfl | rfl | hr
        · exact ⟨0, by simp, .inl rfl⟩
        · exact ⟨0, by simp, .inr (.inr rfl)⟩
        · exact tl r hr
      · simp only [List.map_cons, List.nodup_cons, List.mem_cons]
        refine ⟨⟨nslot, h1⟩, fun r hr => ?_⟩
        rcases hr with rfl | hr
        · exact ⟨0, by simp, .inl rfl⟩
        · exact tl r hr
def initG (nt : Nat) (args : List Arg) (γ : Nat → Gh) : GG := fun r =>
  if r % 4 = 2 then (if tagOf args (r / 4) = 1 ∨ tagOf args (r / 4) = 3 then γ (r / 4) else noG)
  else if r % 4 = 1 ∧ nt ≤ r / 4 then (if tagOf args (r / 4 - nt) = 2 then γ (r / 4 - nt) else noG) else noG
theorem initG_ext {nt args γ i} : initG nt args γ (ext i) = if tagOf args i = 1 ∨ tagOf args i = 3 then γ i else noG := by
  have h1 : ext i % 4 = 2 := by unfold ext; omega
  have h2 : ext i / 4 = i := by unfold ext; omega
  unfold initG
  rw [if_pos h1, h2]
theorem initG_box {nt args γ i} : initG nt args γ (box (nt + i)) = if tagOf args i = 2 then γ i else noG := by
  have h0 : ¬ box (nt + i) % 4 = 2 := by unfold box; omega
  have h1 : box (nt + i) % 4 = 1 ∧ nt ≤ box (nt + i) / 4 := by unfold box; omega
  have h2 : box (nt + i) / 4 - nt = i := by unfold box; omega
  unfold initG
  rw [if_neg h0, if_pos h1, h2]
theorem initG_slot {nt args γ t} : initG nt args γ (slot t) = noG := by
  have h0 : ¬ slot t % 4 = 2 := by unfold slot; omega
  have h1 : ¬ (slot t % 4 = 1 ∧ nt ≤ slot t / 4) := by unfold slot; omega
  unfold initG
  rw [if_neg h0, if_neg h1]
theorem initG_park {nt args γ t} : initG nt args γ (park t) = noG := by
  have h0 : ¬ park t % 4 = 2 := by unfold park; omega
  have h1 : ¬ (park t % 4 = 1 ∧ nt ≤ park t / 4) := by unfold park; omega
  unfold initG
  rw [if_neg h0, if_neg h1]
theorem initG_some {nt args γ r p y} (h : initG nt args γ r p = some y) : ∃ i, γ i p = some y ∧ ((r = ext i ∧ (tagOf args i = 1 ∨ tagOf args i = 3)) ∨ (r = box (nt + i) ∧ tagOf args i = 2)) := by
  unfold initG at h
  split at h
  · rename_i h1
    split at h
    · rename_i h2
      exact ⟨r / 4, h, .inl ⟨by unfold ext; omega, h2⟩⟩
    · simp [noG] at h
  · split at h
    · rename_i h1
      split at h
      · rename_i h2
        exact ⟨r / 4 - nt, h, .inr ⟨by unfold box; omega, h2⟩⟩
      · simp [noG] at h
    · simp [noG] at h
theorem S.init {nt : Nat} {args : List Arg} {w : World} {vals : Array Value} {γ : Nat → Gh} (hx : ArgsX w args vals γ) (hle : args.length ≤ nt) :
    S ⟨w, Dof γ, nt, fun i => vals.getD i undef, fun t => initG nt args γ (box t) []⟩ (initA nt 0 args) { tmps := vals ++ Array.replicate (nt - vals.size) undef, defers := [] } w := by
  have hV : ∀ r, ((initA nt 0 args).get r).ver = z0 := fun r => by
    rcases get_initA nt args 0 r with h | ⟨j, x, _, ⟨_, h⟩ | ⟨_, _, h⟩ | ⟨_, _, h⟩⟩ <;> rw [h]
  have hV' : (fun r => ((initA nt 0 args).get r).ver) = fun _ => z0 := funext hV
  have htmp : ∀ (j : Nat) u, vals[j]? = some u → (vals ++ Array.replicate (nt - vals.size) undef).getD j undef = u := fun j u hu => by
    have hlt : j < vals.size := (Array.getElem?_eq_some_iff.1 hu).1
    rw [Array.getD_eq_getD_getElem?, Array.getElem?_append_left hlt, hu]
    rfl
  have hval : ∀ (j : Nat) u, vals[j]? = some u → vals.getD j undef = u := fun j u hu => by rw [Array.getD_eq_getD_getElem?, hu]; rfl
  refine ⟨initG nt args γ, ⟨(keys_initA nt args 0).1, fun r p r' p' ad c ad' c' h1 h2 hb => ?_, fun r p ad c h1 => ?_, rfl, rfl, rfl, Nat.le_refl _, fun _ _ => rfl, fun t => ?_, fun t => ?_, fun t => ?_, fun t ht => rfl, rfl, ?_, fun t ht => ?_⟩, fun y => initG_park⟩
  · obtain ⟨i, g1, k1⟩ := initG_some h1
    obtain ⟨i', g2, k2⟩ := initG_some h2
    obtain ⟨rfl, rfl⟩ := hx.inj _ _ _ _ _ _ _ _ g1 g2 hb
    rcases k1 with ⟨rfl, t1⟩ | ⟨rfl, t1⟩ <;> rcases k2 with ⟨rfl, t2⟩ | ⟨rfl, t2⟩
    · exact ⟨rfl, rfl⟩
    · omega
    · omega
    · exact ⟨rfl, rfl⟩
  · obtain ⟨i, g1, _⟩ := initG_some h1
    exact ⟨.inr ⟨i, p, ad, c, g1, rfl⟩, hx.rng _ _ _ _ g1⟩
  · rw [hV', initG_slot]
    rcases get_initA nt args 0 (slot t) with h | ⟨j, x, hj, ⟨h1, h⟩ | ⟨h1, _, h⟩ | ⟨h1, _, h⟩⟩
    · rw [h]; trivial
    · rw [h]
      have := slot_inj h1
      rw [Nat.zero_add] at this ⊢
      subst this
      obtain ⟨u, hu, hok⟩ := hx.arg t x hj
      simp only
      rw [htmp t u hu, argRow_eq]
      have htag := tagOf_eq hj
      unfold ArgOk at hok
      split
      · rename_i ht
        rw [if_pos ht] at hok
        have hr := hok.2 ⟨w, Dof γ, nt, fun i => vals.getD i undef, fun t => initG nt args γ (box t) []⟩ (initG nt args γ) fun _ => z0
        have hG : initG nt args γ (ext t) = γ t := by rw [initG_ext, htag, if_pos ht]
        rw [← hG] at hr
        exact RelRow.view (r := ext t) (i := 0) (np_ext t) hr
      · rename_i ht
        rw [if_neg ht] at hok
        split
        · rename_i ht2
          rw [if_pos ht2] at hok
          obtain ⟨_, b, vs, e, rfl, hg, _⟩ := hok
          refine ⟨b, 0, rfl, ⟨np_box _, fun _ => by unfold box; omega⟩, Nat.le_refl _, fun _ => ⟨0, 1, ?_, by simp⟩⟩
          rw [initG_box, htag, if_pos ht2]
          exact hg
        · rename_i ht2
          rw [if_neg ht2] at hok
          have key : ∀ {row : Row} {v : Value} {g : Nat → Gh} {G V}, RelRow (calleeEnv w (Dof γ)) G V w g row v → RelRow ⟨w, Dof γ, nt, fun i => vals.getD i undef, fun t => initG nt args γ (box t) []⟩ G V w g row v := by
            intro row v g G V hr
            have kc : ∀ {c : C} {v : Value} {g : Gh}, RelC (calleeEnv w (Dof γ)) G V w g c v → RelC ⟨w, Dof γ, nt, fun i => vals.getD i undef, fun t => initG nt args γ (box t) []⟩ G V w g c v := by
              intro c v g hc
              cases c with
              | tr o t => cases o <;> exact hc
              | ref r ver p m s n => exact hc
              | pt x => cases x <;> exact hc
              | fn f caps =>
                obtain ⟨vs, e, hs, hh⟩ := hc
                refine ⟨vs, e, hs, fun i x hi => ?_⟩
                obtain ⟨u, hu, hp⟩ := hh i x hi
                refine ⟨u, hu, ?_⟩
                cases x <;> exact hp
              | dead => exact hc
            obtain ⟨ag, cs⟩ := row
            cases ag with
            | true =>
              obtain ⟨vs, e, hc⟩ := hr
              exact ⟨vs, e, hc.1, fun k c hk => let ⟨u, hu, h1⟩ := hc.2 k c hk; ⟨u, hu, kc h1⟩⟩
            | false => match cs, hr with
              | [], hr => exact hr
              | [c], hr => exact kc hr
          exact key (hok (initG nt args γ) fun _ => z0)
    · exact absurd h1 (slot_ne_ext _ _)
    · exact absurd h1 (slot_ne_box _ _)
  · rw [hV']
    rcases get_initA nt args 0 (box t) with h | ⟨j, x, hj, ⟨h1, h⟩ | ⟨h1, _, h⟩ | ⟨h1, ht, h⟩⟩
    · exact .inl (by rw [h])
    · exact absurd h1.symm (slot_ne_box _ _)
    · exact absurd h1 (box_ne_ext _ _)
    · rw [h]
      have := box_inj h1
      rw [Nat.zero_add] at this
      subst this
      obtain ⟨u, hu, hok⟩ := hx.arg j x hj
      unfold ArgOk at hok
      rw [if_neg (by omega), if_pos ht] at hok
      obtain ⟨_, b, vs, e, _, hg, hw, hc⟩ := hok
      have hG : initG nt args γ (box (nt + j)) = γ j := by rw [initG_box, tagOf_eq hj, if_pos ht]
      refine .inr ⟨x.2, b, vs, e, rfl, by rw [hG]; exact hg, hw, ?_⟩
      rw [hG]
      exact hc _ _ _
  · rw [hV']
    rcases get_initA nt args 0 (ext t) with h | ⟨j, x, hj, ⟨h1, h⟩ | ⟨h1, ht, h⟩ | ⟨h1, _, h⟩⟩
    · rw [h]; trivial
    · exact absurd h1.symm (slot_ne_ext _ _)
    · rw [h]
      have := ext_inj h1
      rw [Nat.zero_add] at this
      subst this
      obtain ⟨u, hu, hok⟩ := hx.arg t x hj
      unfold ArgOk at hok
      rw [if_pos ht] at hok
      simp only
      rw [hval t u hu, initG_ext, tagOf_eq hj, if_pos ht]
      exact hok.2 _ _ _
    · exact absurd h1.symm (box_ne_ext _ _)
  · have := hx.size
    simp
    omega
  · rw [has_iff] at ht
    obtain ⟨j, hj, h | h | h⟩ := (keys_initA nt args 0).2 _ ht
    · have := slot_inj h; simp only; omega
    · exact absurd h (slot_ne_ext _ _)
    · exact absurd h (slot_ne_box _ _)
theorem body_sound (hφ : SemsOk P φ) (hm : P.follows .mixedOrders = true) {kp : List (Nat × List Nat)} {n : Nat} {f : FuncId} {fn : Func} (hf : P.funcs[f]? = some fn) {c : Code} (hc : fn.body = some c) {args : List Arg} {rs outs : List Row} (h : body P φ kp n fn args = some (rs, outs))
    (hN : fn.name ≠ "runtime.NumGoroutine") : Sound P f args rs outs := by
  refine ⟨⟨fn, hf, by rw [hc]; rfl, hN⟩, fun w vals γ hargs => ?_⟩
  unfold body at h
  cases hb : (Nat.beq args.length (fn.params.size + fn.nfree) && Nat.ble args.length fn.ntmps) with
  | false => rw [hb] at h; cases h
  | true =>
    rw [hb] at h
    simp only [cond_true] at h
    simp only [Bool.and_eq_true, Nat.ble_eq] at hb
    have hbody : bodyOf fn = c := by unfold bodyOf; rw [hc]
    rw [hbody] at h
    have h' := cast (exec_nat (P := P) (φ := φ) (fun o : Option (List Row × List Row) => o = some (rs, outs)) (z := none) (z' := False) (by simp) (kpOf kp) fn.ntmps n c (initA fn.ntmps 0 args) fun e σ => match e with
      | .exit _ => none
      | _ => resultsK P φ none fn (args.map (·.1)) σ fun rows outs => some (rows, outs)) h
    have hxb : ∀ i x, args[i]? = some x → x.1 = 2 → (fun t => initG fn.ntmps args γ (box t) []) (fn.ntmps + i) = γ i [] := fun i x hi ht => by
      simp only
      rw [initG_box, tagOf_eq hi, if_pos ht]
    refine calls_of_wp hf hc (cond_sound hm (E := ⟨w, Dof γ, fn.ntmps, fun i => vals.getD i undef, fun t => initG fn.ntmps args γ (box t) []⟩) hφ c _ _ _ _ _ h' (S.init hargs hb.2) fun e σ' a' w' hK hS => ?_)
    cases e with
    | exit i => cases hK
    | normal => exact post_sound hargs hxb hS hK
    | ret => exact post_sound hargs hxb hS hK
end
end Go.Mach
