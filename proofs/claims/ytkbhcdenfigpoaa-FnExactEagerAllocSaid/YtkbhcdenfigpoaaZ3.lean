/- Lemmas and definitions of the proof (Ro Ga Fc Ha Hk Ia Cn Co Ra Rb Rc Rd Rj Vc Vd Va Vb Tb Vx Vf Qa Qb Qc Qd Qx Qy). Conditions: none. -/
import Derived.WalkKit
import Derived.ProofKit
import Derived.OpenShut
import Derived.ShutString
import Derived.ChangeOld
import Derived.Below
import Derived.SizedLaws
import Derived.Test.YtkbhcdenfigpoaaZ2
set_option linter.all false
namespace Go.Mach
open Go
inductive Sh where
  | int (k : IntKind)
  | bool
  | arr (ss : List Sh)
def shFs (P : Program) (sub : TypeId → Option (List Sh)) : Nat → List Field → Option (List Sh)
  | _, [] => some []
  | o, f :: l => bif Nat.beq f.offset o then match sub f.type with
    | some a => bif Nat.beq a.length (P.cellsOf f.type) then match shFs P sub (o + a.length) l with
      | some r => some (a ++ r)
      | none => none
      else none
    | none => none
    else none
/-- The shapes of a type's cells. -/
def shOf (P : Program) : Nat → TypeId → Option (List Sh)
  | 0, _ => none
  | n + 1, t => match P.underlying t with
    | some .bool => some [.bool]
    | some (.int k) => some [.int k]
    | some (.slice e) => match shOf P n e with
      | some l => bif Nat.beq l.length (P.cellsOf e) && Nat.blt 0 (P.bytesOf e) && Nat.blt 0 l.length then some [.arr l] else none
      | none => none
    | some (.struct fs) => match shFs P (shOf P n) 0 fs.toList with
      | some l => bif Nat.beq l.length (P.cellsOf t) then some l else none
      | none => none
    | _ => none
/-- A tree has a shape. -/
def ShT : T → Sh → Prop
  | .int k n, s => s = .int k ∧ (Lit.int k n).wf = true
  | .bool _, s => s = .bool
  | .arr m n f, s => ∃ ss, s = .arr ss ∧ m = ss.length ∧ n ≤ F.ZM ∧ (∀ j, j < n → ∀ k s', ss[k]? = some s' → ShT (f j k) s') ∧ ∀ j k, (n ≤ j ∨ m ≤ k) → f j k = .hole
  | _, _ => False
def Cl (w : World) (N : Nat → Prop) (ts : List T) (ss : List Sh) (cs : List Value) : Prop :=
  ts.length = ss.length ∧ cs.length = ss.length ∧ ∀ (k : Nat) s, ss[k]? = some s → ∃ t v, ts[k]? = some t ∧ cs[k]? = some v ∧ ShT t s ∧ RelIm w N t v
theorem Cl.nil {w N} : Cl w N [] [] [] := ⟨rfl, rfl, fun k s h => by simp at h⟩
theorem Cl.one {w N t s v} (h : ShT t s) (h' : RelIm w N t v) : Cl w N [t] [s] [v] := ⟨rfl, rfl, fun k s' hk => by
  cases k with
  | zero => simp at hk; subst hk; exact ⟨t, v, rfl, rfl, h, h'⟩
  | succ k => simp at hk⟩
theorem Cl.append {w N ts ss cs ts' ss' cs'} (h : Cl w N ts ss cs) (h' : Cl w N ts' ss' cs') : Cl w N (ts ++ ts') (ss ++ ss') (cs ++ cs') := by
  refine ⟨by simp [h.1, h'.1], by simp [h.2.1, h'.2.1], fun k s hk => ?_⟩
  by_cases hl : k < ss.length
  · rw [List.getElem?_append_left hl] at hk
    rw [List.getElem?_append_left (by rw [h.1]; exact hl), List.getElem?_append_left (by rw [h.2.1]; exact hl)]
    exact h.2.2 k s hk
  · rw [List.getElem?_append_right (by omega)] at hk
    rw [List.getElem?_append_right (by rw [h.1]; omega), List.getElem?_append_right (by rw [h.2.1]; omega), h.1, h.2.1]
    exact h'.2.2 _ s hk
section
variable {H : Type} {enc : TypeId × Value → H} {P : Program} {w : World} {base : Nat} {spare : Nat → Bool} {held : Bool} {N : Nat → Prop}
/-- What is needed of a told value. -/
def Fit (P : Program) (N : Nat → Prop) (t : TypeId) (x : DataW H × List MemPlace) : Prop := (∀ p ∈ x.2, N p.block) ∧ ∀ m ∈ x.1.weights P t, m ≤ reachBytes
theorem weightsAll_mem {e : TypeId} : ∀ {ds : List (DataW H)} {j : Nat} {d : DataW H}, ds[j]? = some d → ∀ n ∈ d.weights P e, n ∈ DataW.weightsAll P e ds
  | d0 :: ds, 0, d, hd, n, hn => by
    simp only [List.getElem?_cons_zero, Option.some.injEq] at hd
    subst hd
    simp only [DataW.weightsAll, List.mem_append]
    exact .inl hn
  | d0 :: ds, j + 1, d, hd, n, hn => by
    simp only [List.getElem?_cons_succ] at hd
    simp only [DataW.weightsAll, List.mem_append]
    exact .inr (weightsAll_mem hd n hn)
  | [], _, _, hd, _, _ => by simp at hd
theorem reach_zm {n b : Nat} (h : n * b ≤ reachBytes) (hb : 0 < b) : n ≤ F.ZM := by
  have := reachBytes_lt
  have hz := F.zm
  have : n * 1 ≤ n * b := Nat.mul_le_mul_left n hb
  omega
theorem open_fs {sub : TypeId → Option (List Sh)} {tr : TypeId → List Value → Option (DataW H × List MemPlace)}
    (hsub : ∀ t ss cs x, sub t = some ss → tr t cs = some x → Fit P N t x → ∃ ts, Cl w N ts ss cs) (cs : List Value) :
    ∀ (fs : List Field) (o : Nat) (ss : List Sh), shFs P sub o fs = some ss → (∀ (i : Nat) (f : Field), fs[i]? = some f → ∃ x, tr f.type ((cs.drop f.offset).take (P.cellsOf f.type)) = some x ∧ Fit P N f.type x) →
      ∃ ts, Cl w N ts ss ((cs.drop o).take ss.length)
  | [], o, ss, h, _ => by
    simp only [shFs, Option.some.injEq] at h
    subst h
    exact ⟨[], by simpa using Cl.nil⟩
  | f :: fs, o, ss, h, hx => by
    unfold shFs at h
    cases ho : Nat.beq f.offset o with
    | false => simp [ho] at h
    | true =>
      simp only [ho, cond_true] at h
      cases ha : sub f.type with
      | none => simp [ha] at h
      | some a =>
        simp only [ha] at h
        cases hl : Nat.beq a.length (P.cellsOf f.type) with
        | false => simp [hl] at h
        | true =>
          simp only [hl, cond_true] at h
          cases hr : shFs P sub (o + a.length) fs with
          | none => simp [hr] at h
          | some r =>
            simp only [hr, Option.some.injEq] at h
            subst h
            obtain ⟨x, hx0, hf⟩ := hx 0 f rfl
            obtain ⟨ts, hts⟩ := hsub f.type a _ x ha hx0 hf
            obtain ⟨tr', htr⟩ := open_fs hsub cs fs (o + a.length) r hr fun i f' hi => hx (i + 1) f' (by simpa using hi)
            have e1 := Nat.eq_of_beq_eq_true ho
            have e2 := Nat.eq_of_beq_eq_true hl
            rw [← e2, e1] at hts
            refine ⟨ts ++ tr', ?_⟩
            have := hts.append htr
            rw [List.length_append, List.take_add]
            rw [List.drop_drop]
            exact this
theorem row_mem {a : Addr} {n : Nat} {N : Nat → Prop} (h : ∀ p ∈ MemPlace.row a n, N p.block) (hn : 0 < n) : N a.block :=
  h (.cell a.block (a.off + 0)) (List.mem_map.2 ⟨0, by simp; omega, rfl⟩)
theorem open_im : ∀ (n : Nat) (t : TypeId) (ss : List Sh), shOf P n t = some ss → ∀ (fuel : Nat) (cs : List Value) (x : DataW H × List MemPlace), DataW.trod enc P w base spare held fuel t cs = some x → Fit P N t x → ∃ ts, Cl w N ts ss cs
  | 0, _, _, h, _, _, _, _, _ => by simp [shOf] at h
  | n + 1, t, ss, h, fuel, cs, x, hx, hf => by
    unfold shOf at h
    split at h
    case h_1 hu =>
      simp only [Option.some.injEq] at h
      subst h
      obtain ⟨b, rfl, _⟩ := DataW.trod_bool hu hx
      exact ⟨[.bool b], .one rfl rfl⟩
    case h_2 k hu =>
      simp only [Option.some.injEq] at h
      subst h
      obtain ⟨m, rfl, _, hw⟩ := DataW.trod_int hu hx
      exact ⟨[.int k m], .one ⟨rfl, hw⟩ rfl⟩
    case h_3 e hu =>
      cases hl : shOf P n e with
      | none => simp [hl] at h
      | some l =>
        simp only [hl] at h
        cases hb : (Nat.beq l.length (P.cellsOf e) && Nat.blt 0 (P.bytesOf e) && Nat.blt 0 l.length) with
        | false => simp [hb] at h
        | true =>
          simp only [hb, cond_true, Option.some.injEq] at h
          subst h
          simp only [Bool.and_eq_true, Nat.blt_eq] at hb
          obtain ⟨⟨h1, h2⟩, h3⟩ := hb
          have h1 := Nat.eq_of_beq_eq_true h1
          rcases DataW.trod_slice hu hx with ⟨rfl, rfl⟩ | ⟨a, len, cap, elems, rest, m, rfl, rfl, rfl, hba, hlc, hcap, hel, hat, _, _⟩
          · exact ⟨[.arr l.length 0 fun _ _ => .hole], .one ⟨l, rfl, rfl, Nat.zero_le _, fun j hj => by omega, fun _ _ _ => rfl⟩ ⟨none, 0, rfl, Nat.le_refl _, fun h => by omega⟩⟩
          · obtain ⟨hp, hw⟩ := hf
            dsimp only at hp hw
            simp only [DataW.weights, hu, List.mem_cons, List.mem_append, List.length_map] at hw
            have hlen : len ≤ F.ZM := by
              have := reach_zm (hw _ (.inl rfl)) h2
              omega
            have key : ∀ i, ∃ ts, i < len → ∃ csi, w.cells? base (a.add (i * P.cellsOf e)) (P.cellsOf e) = some csi ∧ Cl w N ts l csi := fun i => by
              by_cases hi : i < len
              · have h4 := hat i hi
                have hxi := List.getElem?_eq_getElem (show i < elems.length by omega)
                rw [hxi] at h4
                obtain ⟨csi, h5, h6⟩ := Option.bind_eq_some_iff.1 h4
                have hfi : Fit P N e elems[i] := by
                  refine ⟨fun p hp' => hp p (List.mem_append_right _ (List.mem_flatMap.2 ⟨elems[i], List.mem_append_left _ (List.getElem_mem _), hp'⟩)), fun m' hm' => hw m' (.inr (.inl ?_))⟩
                  exact weightsAll_mem (j := i) (d := elems[i].1) (by rw [List.getElem?_map, hxi]; rfl) _ hm'
                obtain ⟨ts, hts⟩ := open_im n e l hl m csi _ h6 hfi
                exact ⟨ts, fun _ => ⟨csi, h5, hts⟩⟩
              · exact ⟨[], fun h => absurd h hi⟩
            obtain ⟨g, hg⟩ := Classical.axiomOfChoice key
            refine ⟨[.arr l.length len fun j k => if j < len then (g j).getD k .hole else .hole], .one ⟨l, rfl, rfl, hlen, fun j hj k s' hs => ?_, fun j k hjk => ?_⟩ ⟨some a, cap, rfl, hlc, fun h0 => ?_⟩⟩
            · simp only [hj, if_true]
              obtain ⟨csj, _, hcl⟩ := hg j hj
              obtain ⟨t', v', ht', _, hsh, _⟩ := hcl.2.2 k s' hs
              rw [List.getD_eq_getElem?_getD, ht']
              exact hsh
            · by_cases hj : j < len
              · simp only [hj, if_true]
                obtain ⟨csj, _, hcl⟩ := hg j hj
                rw [List.getD_eq_getElem?_getD, List.getElem?_eq_none (by rw [hcl.1]; omega)]
                rfl
              · simp only [hj, if_false]
            · have hpos : 0 < (elems.length + rest.length) * P.cellsOf e := Nat.mul_pos (by omega) (by omega)
              have hN : N a.block := row_mem (fun p hp' => hp p (List.mem_append_left _ hp')) hpos
              obtain ⟨cs0, hc0, hcl0⟩ := hg 0 h0
              obtain ⟨_, hlen0, hcell0⟩ := World.cells?_some hc0
              have g0 := hcell0 0 (by omega)
              have hsp : a.spot = none := by
                obtain ⟨v0, hv0⟩ : ∃ v0, cs0[0]? = some v0 := ⟨_, List.getElem?_eq_getElem (by omega)⟩
                rw [hv0] at g0
                have := World.cell?_spot g0
                simpa [Addr.add] using this
              obtain ⟨b, off, sp⟩ := a
              dsimp only at hsp
              subst hsp
              refine ⟨b, off, rfl, hN, fun j hj k hk => ?_⟩
              simp only [hj, if_true]
              obtain ⟨csj, hcj, hcl⟩ := hg j hj
              obtain ⟨_, hlenj, hcellj⟩ := World.cells?_some hcj
              obtain ⟨t', v', ht', hv', _, him⟩ := hcl.2.2 k l[k] (List.getElem?_eq_getElem hk)
              have hc := hcellj k (by omega)
              rw [WideShapes.add_plain, WideShapes.add_plain, hv'] at hc
              refine ⟨v', ?_, by rw [List.getD_eq_getElem?_getD, ht']; exact him⟩
              rw [show off + (j * l.length + k) = off + j * P.cellsOf e + k by rw [h1]; omega]
              exact hc
    case h_4 fs hu =>
      cases hl : shFs P (shOf P n) 0 fs.toList with
      | none => simp [hl] at h
      | some l =>
        simp only [hl] at h
        cases hb : Nat.beq l.length (P.cellsOf t) with
        | false => simp [hb] at h
        | true =>
          simp only [hb, cond_true, Option.some.injEq] at h
          subst h
          have hb := Nat.eq_of_beq_eq_true hb
          obtain ⟨xs, m, rfl, rfl, hlen, hxl, hget⟩ := DataW.trod_struct hu hx
          obtain ⟨hp, hw⟩ := hf
          dsimp only at hp hw
          simp only [DataW.weights, hu] at hw
          obtain ⟨ts, hts⟩ := open_fs (P := P) (w := w) (N := N) (sub := shOf P n) (tr := DataW.trod enc P w base spare held m) (fun t' ss' cs' x' h1 h2 h3 => open_im n t' ss' h1 m cs' x' h2 h3) cs fs.toList 0 l hl fun i f hi => by
            have hi' : fs[i]? = some f := by simpa using hi
            have hil : i < fs.size := (Array.getElem?_eq_some_iff.1 hi').1
            have hx' := hget i f hi'
            have hxi := List.getElem?_eq_getElem (show i < xs.length by omega)
            rw [hxi] at hx'
            refine ⟨_, hx', fun p hp' => hp p (List.mem_flatMap.2 ⟨xs[i], List.getElem_mem _, hp'⟩), fun m' hm' => hw m' ?_⟩
            exact DataW.weights_mem_each (j := i) (t := f.type) (d := xs[i].1) (by simp [hi']) (by simp [hxi]) _ hm'
          refine ⟨ts, ?_⟩
          rw [List.drop_zero, hb, ← hlen, List.take_length] at hts
          exact hts
    case h_5 => cases h
end
/-! ### arguments -/
def D0 : Nat → Prop := Dof fun _ => noG
theorem not_D0 (b : Nat) : ¬ D0 b := fun ⟨_, _, _, _, h, _⟩ => by cases h
def ShTs : List T → List Sh → Prop
  | [], [] => True
  | t :: ts, s :: ss => ShT t s ∧ ShTs ts ss
  | _, _ => False
theorem Cl.shts {w N} : ∀ {ts ss cs}, Cl w N ts ss cs → ShTs ts ss
  | [], [], _, _ => trivial
  | [], s :: ss, _, h => by have := h.1; simp at this
  | t :: ts, [], _, h => by have := h.1; simp at this
  | t :: ts, s :: ss, [], h => by have := h.2.1; simp at this
  | t :: ts, s :: ss, c :: cs, h => by
    refine ⟨?_, Cl.shts (w := w) (N := N) (ts := ts) (ss := ss) (cs := cs) ⟨by simpa using h.1, by simpa using h.2.1, fun k s' hk => ?_⟩⟩
    · obtain ⟨t', v', ht, _, hs, _⟩ := h.2.2 0 s rfl
      simp at ht
      subst ht
      exact hs
    · obtain ⟨t', v', ht, hv, hs, hr⟩ := h.2.2 (k + 1) s' (by simpa using hk)
      exact ⟨t', v', by simpa using ht, by simpa using hv, hs, hr⟩
section
variable {H : Type} {enc : TypeId × Value → H} {P : Program} {W : World}
theorem open_row {n : Nat} {t : TypeId} {ss : List Sh} {vs : Array Value} {d : DataW H} {ps : List MemPlace} (hs : shOf P n t = some ss) (h : DataW.Trod enc P W 0 (fun _ => true) true t (.agg vs) d ps) (hlt : ∀ x ∈ ps, x.block < W.heap.size) (hw : ∀ m ∈ d.weights P t, m ≤ reachBytes) :
    ∃ ts, ShTs ts ss ∧ ArgRow W D0 (F.aR ts).2 (.agg vs) := by
  obtain ⟨fuel, hf⟩ := h
  obtain ⟨ts, hts⟩ := open_im (N := fun b => b < W.heap.size) n t ss hs fuel _ (d, ps) hf ⟨hlt, hw⟩
  refine ⟨ts, hts.shts, fun G V => ⟨vs, rfl, ?_, fun k c hk => ?_⟩⟩
  · have h1 := hts.1
    have h2 := hts.2.1
    simp only [Value.cells, Array.length_toList] at h2
    simp only [F.aR, List.length_map]
    omega
  · simp only [F.aR, List.getElem?_map, Option.map_eq_some_iff] at hk
    obtain ⟨t', ht', rfl⟩ := hk
    have hk : k < ss.length := by rw [← hts.1]; exact (List.getElem?_eq_some_iff.1 ht').1
    obtain ⟨t2, v, h1, h2, _, him⟩ := hts.2.2 k ss[k] (List.getElem?_eq_getElem hk)
    rw [ht'] at h1
    cases h1
    simp only [Value.cells, Array.getElem?_toList] at h2
    refine ⟨v, h2, ?_⟩
    have e : (calleeEnv W D0).N = fun b => b < W.heap.size := by
      funext b
      simp only [Env.N, calleeEnv, not_D0, not_false_eq_true, and_true]
    show RelIm W (calleeEnv W D0).N t' v
    rw [e]
    exact him
theorem open_cell {n : Nat} {t : TypeId} {s : Sh} {v : Value} {d : DataW H} {ps : List MemPlace} (hv : v.cells = #[v]) (hs : shOf P n t = some [s]) (h : DataW.Trod enc P W 0 (fun _ => true) true t v d ps) (hlt : ∀ x ∈ ps, x.block < W.heap.size) (hw : ∀ m ∈ d.weights P t, m ≤ reachBytes) :
    ∃ t', ShT t' s ∧ ArgRow W D0 (F.aT t').2 v := by
  obtain ⟨fuel, hf⟩ := h
  rw [hv] at hf
  obtain ⟨ts, hts⟩ := open_im (N := fun b => b < W.heap.size) n t [s] hs fuel _ (d, ps) hf ⟨hlt, hw⟩
  obtain ⟨t', v', h1, h2, h3, him⟩ := hts.2.2 0 s rfl
  simp at h2
  subst h2
  refine ⟨t', h3, fun G V => ?_⟩
  have e : (calleeEnv W D0).N = fun b => b < W.heap.size := by
    funext b
    simp only [Env.N, calleeEnv, not_D0, not_false_eq_true, and_true]
  show RelIm W (calleeEnv W D0).N t' v
  rw [e]
  exact him
end
/-! ### the arguments together -/
theorem args_x {w : World} {args : List Arg} {vals : Array Value} (hs : vals.size = args.length) (h : ∀ (i : Nat) x, args[i]? = some x → x.1 = 0 ∧ ∃ u, vals[i]? = some u ∧ ArgRow w D0 x.2 u) : ArgsX w args vals fun _ => noG where
  size := hs
  inj := fun i p i' p' ad c ad' c' h => by cases h
  rng := fun i p ad c h => by cases h
  arg := fun i x hi => by
    obtain ⟨h0, u, hu, hr⟩ := h i x hi
    refine ⟨u, hu, ?_⟩
    unfold ArgOk
    rw [if_neg (by omega), if_neg (by omega)]
    exact hr
theorem GrewD.below {w w' : World} (h : GrewD w w' D0) : RowKit.Below w.heap.size w w' := ⟨h.os, h.tape, h.output, h.size, fun b hb => h.old b hb (not_D0 b)⟩
theorem res_bool {w w' : World} {γ : Nat → Gh} {args vals k b v δ} (h : ResX w w' γ args vals (F.erB k b).1 (F.erB k b).2 v δ) : v = .bool b := h.res (calleeEnv w D0) (fun _ => noG) fun _ => z0
/-! ### shapes of lists -/
namespace F
theorem sh_int {t : T} {k : IntKind} (h : ShT t (.int k)) : ∃ n, t = .int k n ∧ (Lit.int k n).wf = true := by
  cases t <;> simp only [ShT] at h
  · obtain ⟨h, hw⟩ := h
    cases h
    exact ⟨_, rfl, hw⟩
  · cases h
  · obtain ⟨_, h, _⟩ := h
    cases h
theorem sh_bool {t : T} (h : ShT t .bool) : ∃ b, t = .bool b := by
  cases t <;> simp only [ShT] at h
  · obtain ⟨h, hw⟩ := h
    cases h
  · exact ⟨_, rfl⟩
  · obtain ⟨_, h, _⟩ := h
    cases h
theorem sh_list {α : Type} {row : α → List T} {ss : List Sh} (ok : α → Prop) (hrow : ∀ x, (row x).length = ss.length) (hc : ∀ ts, ShTs ts ss → ∃ x, ts = row x ∧ ok x) {t : T} (h : ShT t (.arr ss)) :
    ∃ l : List α, t = eL ss.length row l ∧ l.length ≤ ZM ∧ ∀ x ∈ l, ok x := by
  cases t <;> simp only [ShT] at h
  · obtain ⟨h, hw⟩ := h
    cases h
  · cases h
  rename_i m n f
  obtain ⟨ss', h1, rfl, hn, hin, hout⟩ := h
  cases h1
  have hts : ∀ j, j < n → ShTs ((List.range ss.length).map (f j)) ss := by
    intro j hj
    have key : ∀ (l : List Sh) (o : Nat), (∀ k s', l[k]? = some s' → ShT (f j (o + k)) s') → ShTs ((List.range' o l.length).map (f j)) l := by
      intro l
      induction l with
      | nil => intro o _; trivial
      | cons s l ih =>
        intro o hl
        simp only [List.length_cons, List.range'_succ, List.map_cons]
        refine ⟨hl 0 s rfl, ih (o + 1) fun k s' hk => ?_⟩
        have := hl (k + 1) s' (by simpa using hk)
        rwa [show o + (k + 1) = o + 1 + k by omega] at this
    rw [List.range_eq_range']
    exact key ss 0 fun k s' hk => by rw [Nat.zero_add]; exact hin j hj k s' hk
  have hx : ∀ j, ∃ o : Option α, j < n → ∃ x, o = some x ∧ (List.range ss.length).map (f j) = row x ∧ ok x := fun j => by
    by_cases hj : j < n
    · obtain ⟨x, h1, h2⟩ := hc _ (hts j hj)
      exact ⟨some x, fun _ => ⟨x, rfl, h1, h2⟩⟩
    · exact ⟨none, fun h => absurd h hj⟩
  obtain ⟨g, hg⟩ := Classical.axiomOfChoice hx
  have hl : ∀ i, i ≤ n → ∃ l : List α, l.length = i ∧ ∀ j, j < i → l[j]? = g j := by
    intro i
    induction i with
    | zero => exact fun _ => ⟨[], rfl, fun j hj => by omega⟩
    | succ i ih =>
      intro hi
      obtain ⟨l, h1, h2⟩ := ih (by omega)
      obtain ⟨x, h3, _⟩ := hg i (by omega)
      refine ⟨l ++ [x], by simp [h1], fun j hj => ?_⟩
      by_cases hj' : j < i
      · rw [List.getElem?_append_left (by omega)]; exact h2 j hj'
      · have : j = i := by omega
        subst this
        rw [List.getElem?_append_right (by omega), h1, h3]
        simp
  obtain ⟨l, h1, h2⟩ := hl n (Nat.le_refl _)
  refine ⟨l, eL_ext h1.symm fun j k => ?_, by omega, fun x hx => ?_⟩
  · by_cases hj : j < n
    · obtain ⟨x, h3, h4, _⟩ := hg j hj
      rw [h2 j hj, h3]
      dsimp only
      by_cases hk : k < ss.length
      · rw [← h4, List.getD_eq_getElem?_getD, List.getElem?_map, List.getElem?_range hk]
        rfl
      · rw [hout j k (.inr (by omega)), List.getD_eq_getElem?_getD, List.getElem?_eq_none (by rw [hrow]; omega)]
        rfl
    · rw [List.getElem?_eq_none (by omega)]
      exact hout j k (.inl (by omega))
  · obtain ⟨j, hj, rfl⟩ := List.getElem_of_mem hx
    obtain ⟨y, h3, _, h5⟩ := hg j (by omega)
    have := h2 j (by omega)
    rw [List.getElem?_eq_getElem hj, h3] at this
    cases this
    exact h5
theorem shs_nil {ts : List T} (h : ShTs ts []) : ts = [] := by cases ts with | nil => rfl | cons _ _ => exact h.elim
theorem shs_cons {ts : List T} {s ss} (h : ShTs ts (s :: ss)) : ∃ t ts', ts = t :: ts' ∧ ShT t s ∧ ShTs ts' ss := by cases ts with | nil => exact h.elim | cons t ts => exact ⟨t, ts, rfl, h⟩
theorem sh_LI {t : T} (h : ShT t (.arr [.int .i64])) : ∃ l : List Int, t = eI l ∧ l.length ≤ ZM := by
  obtain ⟨l, h1, h2, _⟩ := sh_list (row := rowI) (fun _ => True) (fun _ => rfl) (fun ts hts => by
    obtain ⟨t, ts', rfl, h1, h2⟩ := shs_cons hts
    obtain rfl := shs_nil h2
    obtain ⟨n, rfl, _⟩ := sh_int h1
    exact ⟨n, rfl, trivial⟩) h
  exact ⟨l, h1, h2⟩
theorem sh_LB {t : T} (h : ShT t (.arr [.int .u8])) : ∃ l : List UInt8, t = eB l ∧ l.length ≤ ZM := by
  obtain ⟨l, h1, h2, _⟩ := sh_list (row := rowB) (fun _ => True) (fun _ => rfl) (fun ts hts => by
    obtain ⟨t, ts', rfl, h1, h2⟩ := shs_cons hts
    obtain rfl := shs_nil h2
    obtain ⟨n, rfl, hw⟩ := sh_int h1
    have hn : IntKind.u8.min ≤ n ∧ n ≤ IntKind.u8.max := by simpa [Lit.wf] using hw
    rw [show IntKind.u8.min = 0 from rfl, show IntKind.u8.max = 255 from rfl] at hn
    refine ⟨UInt8.ofNat n.toNat, ?_, trivial⟩
    simp only [rowB, UInt8.toNat_ofNat']
    congr 2
    omega) h
  exact ⟨l, h1, h2⟩
end F
end Go.Mach
namespace Go.Mach.F
open Go Go.Mach Go.Proofs.Try
--=set_option maxRecDepth 100000
theorem aR_inj {cs cs' : List T} (h : aR cs = aR cs') : cs = cs' := by
  have e := congrArg (fun a : Arg => a.2.2) h
  exact (List.map_inj_right (fun x y h => by cases h; rfl)).1 e
theorem aT_inj {t t' : T} (h : aT t = aT t') : t = t' := by cases h; rfl
theorem aI_inj {n m : Int} (h : aI n = aI m) : n = m := by cases h; rfl
theorem aB_inj {n m : Bool} (h : aB n = aB m) : n = m := by cases h; rfl
theorem cond_tf (b : Bool) : (bif b then true else false) = b := by cases b <;> rfl
theorem cond_bf (a b : Bool) : (bif a then b else false) = (a && b) := by cases a <;> rfl
theorem dec_and {p q : Prop} [Decidable p] [Decidable q] : (decide p && decide q) = decide (p ∧ q) := (Bool.decide_and p q).symm
theorem int_eq (a b : Int) : (a == b) = decide (a = b) := by by_cases h : a = b <;> simp [h]
theorem cut_all {α : Type} (row : α → List T) (l : List α) : cutT 0 l.length (atL row l) = atL row l := by
  funext j k
  unfold cutT
  rw [blt_d, Bool.cond_decide]
  split
  · rw [Nat.zero_add]
  · rename_i h
    unfold atL
    rw [List.getElem?_eq_none (by omega)]
theorem bool_self (b : Bool) : (b == b) = true := by cases b <;> rfl
theorem bool_nself (b : Bool) : (b != b) = false := by cases b <;> rfl
theorem int_self (a : Int) : (a == a) = true := by simp
theorem int_nself (a : Int) : (a != a) = false := by simp
def aF (f : Nat) (cs : List T) : Arg := (0, (false, [.fn f [.pim cs.length (pimF cs)]]))
theorem aF_inj {f : Nat} {cs cs' : List T} (hl : cs.length = cs'.length) (h : aF f cs = aF f cs') : cs = cs' := by
  simp only [aF, Prod.mk.injEq, List.cons.injEq, C.fn.injEq, Pt.pim.injEq, true_and, and_true] at h
  apply List.ext_getElem hl
  intro i hi hi'
  have := congrFun h.2 i
  simpa [pimF, List.getD_eq_getElem?_getD, List.getElem?_eq_getElem hi, List.getElem?_eq_getElem hi'] using this
theorem Hd.cs_ext {x y : Hd} (h : x.cs = y.cs) : x = y := Hd.cs_inj x y fun k => by rw [h]
theorem Rf.cs_inj (x y : Rf) (h : ∀ k, x.cs.getD k .hole = y.cs.getD k .hole) : x = y := by
  have h0 := h 0; have h1 := h 1; have h2 := h 2; have h3 := h 3
  rcases x with ⟨⟨x0, x1⟩, x2, x3⟩
  rcases y with ⟨⟨y0, y1⟩, y2, y3⟩
  simp only [Rf.cs, List.getD_cons_zero, List.getD_cons_succ, T.int.injEq, T.bool.injEq, true_and] at h0 h1 h2 h3
  subst h0; subst h1; subst h2; subst h3
  rfl
theorem Rf.cs_ext {x y : Rf} (h : x.cs = y.cs) : x = y := Rf.cs_inj x y fun k => by rw [h]
theorem Cf.cs_inj (x y : Cf) (h : ∀ k, x.cs.getD k .hole = y.cs.getD k .hole) : x = y := by
  have h0 := h 0; have h1 := h 1; have h2 := h 2; have h3 := h 3; have h4 := h 4; have h5 := h 5
  rcases x with ⟨x0, x1, x2, x3, x4, x5⟩
  rcases y with ⟨y0, y1, y2, y3, y4, y5⟩
  simp only [Cf.cs, List.getD_cons_zero, List.getD_cons_succ, T.int.injEq, T.bool.injEq, true_and] at h0 h1 h2 h3 h4 h5
  subst h0; subst h1; subst h2; subst h3; subst h4; subst h5
  rfl
theorem Cf.cs_ext {x y : Cf} (h : x.cs = y.cs) : x = y := Cf.cs_inj x y fun k => by rw [h]
def i_toCf : Nat := 64
noncomputable abbrev F_toCf : Func := f64
def kp_toCf : List (Nat × List Nat) := [(0, [4, 5, 8, 9]), (1, [4, 5, 8, 9, 12, 13]), (2, [4, 5, 8, 9, 12, 13]), (3, [4, 5, 8, 9, 12, 13]), (4, [4, 5, 8, 9, 12, 13]), (5, [4, 5, 8, 9, 12, 13]), (6, [4, 5, 8, 9, 12, 13]), (7, [8, 9, 12, 13]), (8, [8, 9])]
noncomputable def e_toCf : Ent := inl [] prog (tabS []) kp_toCf 0 F_toCf
theorem s_toCf : EntOk prog i_toCf e_toCf := inl_ok tabS_nil mixed (c := bodyOf F_toCf) func64 (by kernel_rfl) (name_ok (by kernel_rfl))
def i_eqCf : Nat := 69
noncomputable abbrev F_eqCf : Func := f69
def kp_eqCf : List (Nat × List Nat) := [(0, [8, 9, 12, 13]), (1, [8, 9, 12, 13, 36]), (2, [16]), (3, [8, 9, 12, 13, 56]), (4, [16]), (5, [8, 9, 12, 13, 76]), (6, [16]), (7, [8, 9, 12, 13, 96]), (8, [16]), (9, [8, 9, 12, 13, 116]), (10, [16]), (11, [136]), (12, [16]), (13, [16])]
noncomputable def e_eqCf : Ent := inl [] prog (tabS []) kp_eqCf 0 F_eqCf
theorem s_eqCf : EntOk prog i_eqCf e_eqCf := inl_ok tabS_nil mixed (c := bodyOf F_eqCf) func69 (by kernel_rfl) (name_ok (by kernel_rfl))
abbrev shHd : List Sh := [.int .i64, .int .i64]
def z_Hd (x : Hd) : Prop := True
theorem sh_Hd {ts : List T} (hh : ShTs ts shHd) : ∃ x : Hd, ts = x.cs ∧ z_Hd x := by
  obtain ⟨t0, ts, rfl, h0, hh⟩ := shs_cons hh
  obtain ⟨t1, ts, rfl, h1, hh⟩ := shs_cons hh
  obtain rfl := shs_nil hh
  obtain ⟨x0, rfl, _⟩ := sh_int h0
  obtain ⟨x1, rfl, _⟩ := sh_int h1
  exact ⟨⟨x0, x1⟩, rfl, trivial⟩
theorem sh_HdS {t : T} (h : ShT t (.arr shHd)) : ∃ l : List Hd, t = eL 2 Hd.cs l ∧ l.length ≤ ZM ∧ ∀ x ∈ l, z_Hd x := sh_list z_Hd (fun _ => rfl) (fun _ hts => sh_Hd hts) h
end Go.Mach.F
namespace Go.Mach.F
open Go Go.Mach Go.Proofs.Try
--=set_option maxRecDepth 100000
theorem Rm.cs_inj (x y : Rm) (h : ∀ k, x.cs.getD k .hole = y.cs.getD k .hole) : x = y := by
  have h0 := h 0; have h1 := h 1; have h2 := h 2; have h3 := h 3; have h4 := h 4; have h5 := h 5; have h6 := h 6; have h7 := h 7; have h8 := h 8; have h9 := h 9; have h10 := h 10
  rcases x with ⟨⟨x0, x1⟩, ⟨x2, x3⟩, x4, x5, x6, x7, x8, x9, x10⟩
  rcases y with ⟨⟨y0, y1⟩, ⟨y2, y3⟩, y4, y5, y6, y7, y8, y9, y10⟩
  simp only [Rm.cs, List.getD_cons_zero, List.getD_cons_succ, T.int.injEq, T.bool.injEq, true_and] at h0 h1 h2 h3 h4 h5 h6 h7 h8 h9 h10
  replace h4 := eL_inj Hd.cs_inj h4
  replace h9 := eL_inj Sf.cs_inj h9
  replace h10 := eI_inj h10
  subst h0; subst h1; subst h2; subst h3; subst h4; subst h5; subst h6; subst h7; subst h8; subst h9; subst h10
  rfl
def i_toRm : Nat := 145
noncomputable abbrev F_toRm : Func := f145
def kp_toRm : List (Nat × List Nat) := [(0, [4, 5, 8, 9, 12, 13, 144]), (1, [4, 5, 8, 9, 12, 13, 144]), (2, [4, 5, 8, 9, 12, 13, 144]), (3, [4, 5, 8, 9, 12, 13, 144]), (4, [4, 5, 8, 9, 12, 13, 144]), (5, [4, 5, 8, 9, 12, 13, 144]), (6, [4, 5, 8, 9, 12, 13, 144]), (7, [4, 5, 8, 9, 12, 13, 144]), (8, [4, 5, 8, 9, 12, 13, 144]), (9, [4, 5, 8, 9, 12, 13, 144]), (10, [8, 9, 12, 13, 144]), (11, [8, 9, 12, 13, 144])]
noncomputable def e_toRm : Ent := inl [] prog (tabS [(i_toHd, e_toHd), (i_toHdS, e_toHdS), (i_toSfS, e_toSfS), (i_toLI, e_toLI)]) kp_toRm 0 F_toRm
theorem s_toRm : EntOk prog i_toRm e_toRm := inl_ok (tabS_cons s_toHd (tabS_cons s_toHdS (tabS_cons s_toSfS (tabS_cons s_toLI tabS_nil)))) mixed (c := bodyOf F_toRm) func145 (by kernel_rfl) (name_ok (by kernel_rfl))
def i_eqRm : Nat := 35
noncomputable abbrev F_eqRm : Func := f35
def kp_eqRm : List (Nat × List Nat) := [(0, [8, 9, 12, 13]), (1, [8, 9, 12, 13, 40]), (2, [16]), (3, [8, 9, 12, 13, 64]), (4, [16]), (5, [8, 9, 12, 13, 88]), (6, [16]), (7, [8, 9, 12, 13, 108]), (8, [16]), (9, [8, 9, 12, 13, 128]), (10, [16]), (11, [8, 9, 12, 13, 148]), (12, [16]), (13, [8, 9, 12, 13, 168]), (14, [16]), (15, [8, 9, 12, 13, 192]), (16, [16]), (17, [216]), (18, [16]), (19, [16])]
noncomputable def e_eqRm : Ent := inl [] prog (tabS [(i_eqHd, e_eqHd), (i_eqHdS, e_eqHdS), (i_eqSfS, e_eqSfS), (i_eqLI, e_eqLI)]) kp_eqRm 0 F_eqRm
theorem s_eqRm : EntOk prog i_eqRm e_eqRm := inl_ok (tabS_cons s_eqHd (tabS_cons s_eqHdS (tabS_cons s_eqSfS (tabS_cons s_eqLI tabS_nil)))) mixed (c := bodyOf F_eqRm) func35 (by kernel_rfl) (name_ok (by kernel_rfl))
def i_szRm : Nat := 142
noncomputable abbrev F_szRm : Func := f142
def kp_szRm : List (Nat × List Nat) := [(0, [4, 8, 9]), (1, [4, 8, 9]), (2, [4, 8, 9, 40]), (3, [16]), (4, [4, 8, 9]), (5, [4, 8, 9, 64]), (6, [16]), (7, [4]), (8, [4, 88]), (9, [16]), (10, [16])]
noncomputable def e_szRm : Ent := inl [] prog (tabS [(i_szHdS, e_szHdS), (i_szSfS, e_szSfS), (i_szLI, e_szLI)]) kp_szRm 0 F_szRm
theorem s_szRm : EntOk prog i_szRm e_szRm := inl_ok (tabS_cons s_szHdS (tabS_cons s_szSfS (tabS_cons s_szLI tabS_nil))) mixed (c := bodyOf F_szRm) func142 (by kernel_rfl) (name_ok (by kernel_rfl))
def ok_RmS (l : List Rm) : Prop := l.length ≤ LM ∧ ∀ x ∈ l, ok_HdS x.kids ∧ ok_SfS x.things ∧ ok_LI x.tags
def ea_RmS (l : List Rm) : List Arg := [aT (eL 11 Rm.cs l)]
noncomputable def e_toRmS : Ent := ent [] ok_RmS ea_RmS (fun l => erT 1 (eL 11 Rm.cs l)) fun l => l
def okq_RmS (l : List Rm) : Prop := l.length ≤ BM ∧ ∀ x ∈ l, okq_HdS x.kids ∧ okq_SfS x.things ∧ okq_LI x.tags
def ok2_RmS (x : List Rm × List Rm) : Prop := okq_RmS x.1
def ea2_RmS (x : List Rm × List Rm) : List Arg := [aT (eL 11 Rm.cs x.1), aT (eL 11 Rm.cs x.2)]
def f_eqRmS (x : List Rm × List Rm) : Bool := decide (x.1 = x.2)
noncomputable def e_eqRmS : Ent := ent [] ok2_RmS ea2_RmS (erB 2) f_eqRmS
theorem ea_RmS_inj (x y : List Rm) (h : ea_RmS x = ea_RmS y) : x = y := by
  simp only [ea_RmS, aT, List.cons.injEq, Prod.mk.injEq, true_and, and_true, C.tr.injEq] at h
  exact eL_inj Rm.cs_inj h
theorem ea2_RmS_inj (x y : List Rm × List Rm) (h : ea2_RmS x = ea2_RmS y) : x = y := by
  simp only [ea2_RmS, aT, List.cons.injEq, Prod.mk.injEq, true_and, and_true, C.tr.injEq] at h
  exact Prod.ext (eL_inj Rm.cs_inj h.1) (eL_inj Rm.cs_inj h.2)
def i_toRmS : Nat := 76
noncomputable abbrev F_toRmS : Func := f76
def kp_toRmS : List (Nat × List Nat) := [(0, [0]), (1, [0, 12]), (2, [0, 12, 16]), (3, [0, 12, 16, 44]), (4, [0, 12, 16]), (5, [0, 12, 16]), (6, [8])]
def ts_toRmS : List Nat := [0]
def st_toRmS_1 (l : List Rm) (nx12 : Nat) (fx12 : Nat → Nat → T) (x16 : Int) : St := [(0, ⟨z0, [(false, [.tr false (eL 11 Rm.cs l)])]⟩), (12, ⟨z0, [(false, [.tr true (.arr (11) (nx12) (fx12))])]⟩), (16, ⟨z0, [(false, [.tr true (T.int IntKind.i64 x16)])]⟩)]
def ex_toRmS_1_1 (l : List Rm) (nx12 : Nat) (fx12 : Nat → Nat → T) (x16 : Int) : St := [(0, ⟨z0, [(false, [.tr false (eL 11 Rm.cs l)])]⟩), (12, ⟨z0, [(false, [.tr true (.arr (11) (nx12) (fx12))])]⟩), (16, ⟨z0, [(false, [.tr true (T.int IntKind.i64 x16)])]⟩), (44, ⟨z0, []⟩)]
theorem round_toRmS_1 (l : List Rm) (nx12 : Nat) (fx12 : Nat → Nat → T) (x16 : Int) (n : Nat) (K : Ex → St → Res) : roundAt prog (tabS [(i_toRm, e_toRm)]) kp_toRmS F_toRmS [1, 1, 0, 1, 0] n (st_toRmS_1 l nx12 fx12 x16) K = (
 bif decide (x16 < (↑l.length : Int)) then
  gd (decide (0 ≤ x16) && (x16.toNat.blt l.length && true)) <|
  gd (T.isI IntKind.i64 (atL Rm.cs l x16.toNat 0) && T.isI IntKind.i64 (atL Rm.cs l x16.toNat 1) &&
                  T.isI IntKind.i64 (atL Rm.cs l x16.toNat 2) &&
                T.isI IntKind.i64 (atL Rm.cs l x16.toNat 3) &&
              ((atL Rm.cs l x16.toNat 4).isArr && (atL Rm.cs l x16.toNat 4).wd.beq 2) &&
            T.isI IntKind.i64 (atL Rm.cs l x16.toNat 5) &&
          T.isI IntKind.i64 (atL Rm.cs l x16.toNat 6) &&
        (atL Rm.cs l x16.toNat 7).isB &&
      T.isI IntKind.i64 (atL Rm.cs l x16.toNat 8) &&
    ((atL Rm.cs l x16.toNat 9).isArr && (atL Rm.cs l x16.toNat 9).wd.beq 1) &&
  ((atL Rm.cs l x16.toNat 10).isArr && (atL Rm.cs l x16.toNat 10).wd.beq 1)) <|
  gd (dom ok_HdS ea_HdS [(0, false, [C.tr false (T.arr 2 (atL Rm.cs l x16.toNat 4).ln (atL Rm.cs l x16.toNat 4).fn)])]) <|
  gd ((inv ok_HdS ea_HdS
          [(0, false, [C.tr false (T.arr 2 (atL Rm.cs l x16.toNat 4).ln (atL Rm.cs l x16.toNat 4).fn)])]).length.ble
    (inv ok_HdS ea_HdS
        [(0, false, [C.tr false (T.arr 2 (atL Rm.cs l x16.toNat 4).ln (atL Rm.cs l x16.toNat 4).fn)])]).length &&
  true) <|
  gd (dom ok_SfS ea_SfS [(0, false, [C.tr false (T.arr 1 (atL Rm.cs l x16.toNat 9).ln (atL Rm.cs l x16.toNat 9).fn)])]) <|
  gd ((inv ok_SfS ea_SfS
          [(0, false, [C.tr false (T.arr 1 (atL Rm.cs l x16.toNat 9).ln (atL Rm.cs l x16.toNat 9).fn)])]).length.ble
    (inv ok_SfS ea_SfS
        [(0, false, [C.tr false (T.arr 1 (atL Rm.cs l x16.toNat 9).ln (atL Rm.cs l x16.toNat 9).fn)])]).length &&
  true) <|
  gd (dom ok_LI ea_LI [(0, false, [C.tr false (T.arr 1 (atL Rm.cs l x16.toNat 10).ln (atL Rm.cs l x16.toNat 10).fn)])]) <|
  gd ((inv ok_LI ea_LI
          [(0, false, [C.tr false (T.arr 1 (atL Rm.cs l x16.toNat 10).ln (atL Rm.cs l x16.toNat 10).fn)])]).length.ble
    (inv ok_LI ea_LI
        [(0, false, [C.tr false (T.arr 1 (atL Rm.cs l x16.toNat 10).ln (atL Rm.cs l x16.toNat 10).fn)])]).length &&
  true) <|
  gd ((inv ok_HdS ea_HdS
          [(0, false, [C.tr false (T.arr 2 (atL Rm.cs l x16.toNat 4).ln (atL Rm.cs l x16.toNat 4).fn)])]).length.ble
    (inv ok_HdS ea_HdS
        [(0, false, [C.tr false (T.arr 2 (atL Rm.cs l x16.toNat 4).ln (atL Rm.cs l x16.toNat 4).fn)])]).length &&
  true) <|
  gd ((inv ok_SfS ea_SfS
          [(0, false, [C.tr false (T.arr 1 (atL Rm.cs l x16.toNat 9).ln (atL Rm.cs l x16.toNat 9).fn)])]).length.ble
    (inv ok_SfS ea_SfS
        [(0, false, [C.tr false (T.arr 1 (atL Rm.cs l x16.toNat 9).ln (atL Rm.cs l x16.toNat 9).fn)])]).length &&
  true) <|
  gd ((inv ok_LI ea_LI
          [(0, false, [C.tr false (T.arr 1 (atL Rm.cs l x16.toNat 10).ln (atL Rm.cs l x16.toNat 10).fn)])]).length.ble
    (inv ok_LI ea_LI
        [(0, false, [C.tr false (T.arr 1 (atL Rm.cs l x16.toNat 10).ln (atL Rm.cs l x16.toNat 10).fn)])]).length &&
  true) <|
  gd ((inv ok_HdS ea_HdS
          [(0, false, [C.tr false (T.arr 2 (atL Rm.cs l x16.toNat 4).ln (atL Rm.cs l x16.toNat 4).fn)])]).length.ble
    (inv ok_HdS ea_HdS
        [(0, false, [C.tr false (T.arr 2 (atL Rm.cs l x16.toNat 4).ln (atL Rm.cs l x16.toNat 4).fn)])]).length &&
  true) <|
  gd ((inv ok_SfS ea_SfS
          [(0, false, [C.tr false (T.arr 1 (atL Rm.cs l x16.toNat 9).ln (atL Rm.cs l x16.toNat 9).fn)])]).length.ble
    (inv ok_SfS ea_SfS
        [(0, false, [C.tr false (T.arr 1 (atL Rm.cs l x16.toNat 9).ln (atL Rm.cs l x16.toNat 9).fn)])]).length &&
  true) <|
  gd ((inv ok_LI ea_LI
          [(0, false, [C.tr false (T.arr 1 (atL Rm.cs l x16.toNat 10).ln (atL Rm.cs l x16.toNat 10).fn)])]).length.ble
    (inv ok_LI ea_LI
        [(0, false, [C.tr false (T.arr 1 (atL Rm.cs l x16.toNat 10).ln (atL Rm.cs l x16.toNat 10).fn)])]).length &&
  true) <|
  gd (decide (0 ≤ x16) && (x16.toNat.blt nx12 && true)) <|
  gd ((inv ok_HdS ea_HdS
          [(0, false, [C.tr false (T.arr 2 (atL Rm.cs l x16.toNat 4).ln (atL Rm.cs l x16.toNat 4).fn)])]).length.ble
    (inv ok_HdS ea_HdS
        [(0, false, [C.tr false (T.arr 2 (atL Rm.cs l x16.toNat 4).ln (atL Rm.cs l x16.toNat 4).fn)])]).length &&
  true) <|
  gd ((inv ok_SfS ea_SfS
          [(0, false, [C.tr false (T.arr 1 (atL Rm.cs l x16.toNat 9).ln (atL Rm.cs l x16.toNat 9).fn)])]).length.ble
    (inv ok_SfS ea_SfS
        [(0, false, [C.tr false (T.arr 1 (atL Rm.cs l x16.toNat 9).ln (atL Rm.cs l x16.toNat 9).fn)])]).length &&
  true) <|
  gd ((inv ok_LI ea_LI
          [(0, false, [C.tr false (T.arr 1 (atL Rm.cs l x16.toNat 10).ln (atL Rm.cs l x16.toNat 10).fn)])]).length.ble
    (inv ok_LI ea_LI
        [(0, false, [C.tr false (T.arr 1 (atL Rm.cs l x16.toNat 10).ln (atL Rm.cs l x16.toNat 10).fn)])]).length &&
  true) <|
  gd ((0 + x16.toNat).blt nx12 && true && true) <|
  gd ((0 + x16.toNat).blt nx12 && true && true) <|
  gd ((0 + x16.toNat).blt nx12 && true && true) <|
  gd ((0 + x16.toNat).blt nx12 && true && true) <|
  gd ((0 + x16.toNat).blt nx12 && true && true) <|
  gd ((0 + x16.toNat).blt nx12 && true && true) <|
  gd ((0 + x16.toNat).blt nx12 && true && true) <|
  gd ((0 + x16.toNat).blt nx12 && true && true) <|
  gd ((0 + x16.toNat).blt nx12 && true && true) <|
  gd ((0 + x16.toNat).blt nx12 && true && true) <|
  gd ((0 + x16.toNat).blt nx12 && true && true) <|
  K .normal (st_toRmS_1 l (nx12) (setF (0 + x16.toNat) (1 + 1 + 1 + 1 + 1 + 1 + 1 + 1 + 1 + 1)
  (T.arr 1
    (inv ok_LI ea_LI
        [(0, false, [C.tr false (T.arr 1 (atL Rm.cs l x16.toNat 10).ln (atL Rm.cs l x16.toNat 10).fn)])]).length
    (atL rowI
      (inv ok_LI ea_LI
        [(0, false, [C.tr false (T.arr 1 (atL Rm.cs l x16.toNat 10).ln (atL Rm.cs l x16.toNat 10).fn)])])))
  (setF (0 + x16.toNat) (1 + 1 + 1 + 1 + 1 + 1 + 1 + 1 + 1)
    (T.arr 1
      (inv ok_SfS ea_SfS
          [(0, false, [C.tr false (T.arr 1 (atL Rm.cs l x16.toNat 9).ln (atL Rm.cs l x16.toNat 9).fn)])]).length
      (eL 1 Sf.cs
          (inv ok_SfS ea_SfS
            [(0, false, [C.tr false (T.arr 1 (atL Rm.cs l x16.toNat 9).ln (atL Rm.cs l x16.toNat 9).fn)])])).fn)
    (setF (0 + x16.toNat) (1 + 1 + 1 + 1 + 1 + 1 + 1 + 1) (T.int IntKind.i64 (atL Rm.cs l x16.toNat 8).toI)
      (setF (0 + x16.toNat) (1 + 1 + 1 + 1 + 1 + 1 + 1) (T.bool (atL Rm.cs l x16.toNat 7).toB)
        (setF (0 + x16.toNat) (1 + 1 + 1 + 1 + 1 + 1) (T.int IntKind.i64 (atL Rm.cs l x16.toNat 6).toI)
          (setF (0 + x16.toNat) (1 + 1 + 1 + 1 + 1) (T.int IntKind.i64 (atL Rm.cs l x16.toNat 5).toI)
            (setF (0 + x16.toNat) (1 + 1 + 1 + 1)
              (T.arr 2
                (inv ok_HdS ea_HdS
                    [(0, false,
                        [C.tr false (T.arr 2 (atL Rm.cs l x16.toNat 4).ln (atL Rm.cs l x16.toNat 4).fn)])]).length
                (eL 2 Hd.cs
                    (inv ok_HdS ea_HdS
                      [(0, false,
                          [C.tr false (T.arr 2 (atL Rm.cs l x16.toNat 4).ln (atL Rm.cs l x16.toNat 4).fn)])])).fn)
              (setF (0 + x16.toNat) (1 + 1 + 1) (T.int IntKind.i64 (atL Rm.cs l x16.toNat 3).toI)
                (setF (0 + x16.toNat) (1 + 1) (T.int IntKind.i64 (atL Rm.cs l x16.toNat 2).toI)
                  (setF (0 + x16.toNat) 1 (T.int IntKind.i64 (atL Rm.cs l x16.toNat 1).toI)
                    (setF (0 + x16.toNat) 0 (T.int IntKind.i64 (atL Rm.cs l x16.toNat 0).toI) fx12))))))))))) (IntKind.i64.wrap (x16 + 1)))
 else
 K (.exit 0) (ex_toRmS_1_1 l nx12 fx12 x16)) := by kernel_rfl
theorem post_toRmS_1_1 (l : List Rm) (nx12 : Nat) (fx12 : Nat → Nat → T) (x16 : Int) (n : Nat) : contAt prog (tabS [(i_toRm, e_toRm)]) kp_toRmS F_toRmS ts_toRmS [1, 1, 0, 1, 0] [] n (.exit 0) (ex_toRmS_1_1 l nx12 fx12 x16) = (
 gd (nx12.ble nx12 && true) <|
 gd (nx12.ble nx12 && true) <|
 some ([(false, [.tr true (.arr (11) (nx12) (fx12))])], [(false, [])])) := by kernel_rfl
theorem pre_toRmS (l : List Rm) (n : Nat) : body prog (tabS [(i_toRm, e_toRm)]) kp_toRmS n F_toRmS [aT (eL 11 Rm.cs l)] = (
 gd (decide (0 ≤ (↑l.length : Int)) &&
  (decide ((↑l.length : Int) ≤ (↑l.length : Int)) &&
    (((↑l.length : Int).toNat * 136).ble 70368744177664 && (↑l.length : Int).toNat.ble 70368744177664))) <|
 gd ((↑l.length : Int).toNat.ble (↑l.length : Int).toNat && true) <|
 loopAt prog (tabS [(i_toRm, e_toRm)]) kp_toRmS F_toRmS [1, 1, 0, 1, 0] n n (st_toRmS_1 l ((↑l.length : Int).toNat) (cutT 0 (↑l.length : Int).toNat (zeroT prog 71)) (0)) (contAt prog (tabS [(i_toRm, e_toRm)]) kp_toRmS F_toRmS ts_toRmS [1, 1, 0, 1, 0] [] n)) := by kernel_rfl
theorem body_toRmS (l : List Rm) (hl : ok_RmS l) : body prog (tabS [(i_toRm, e_toRm)]) kp_toRmS (l.length + 1) F_toRmS (ea_RmS l) = some (erT 1 (eL 11 Rm.cs l)) := by
  have hl' : l.length ≤ LM := hl.1
  have hlm := lm
  unfold ea_RmS
  rw [pre_toRmS]
  simp only [ge0_d, Int.toNat_natCast, ble_d, Int.le_refl, Nat.le_refl, decide_true, Bool.and_true, Bool.true_and, gd_true]
  rw [decide_eq_true (show l.length * 136 ≤ 70368744177664 by omega), decide_eq_true (show l.length ≤ 70368744177664 by omega)]
  simp only [Bool.and_true, gd_true]
  rw [zero_fill (m := 11) (row := Rm.cs) (d := default) l.length (fun j k => by rcases k with _ | _ | _ | _ | _ | _ | _ | _ | _ | _ | _ | _ <;> kernel_rfl), ← fill_zero l default]
  have hst : st_toRmS_1 l l.length (atL Rm.cs (fill l default 0)) 0 = (fun i : Nat => st_toRmS_1 l l.length (atL Rm.cs (fill l default i)) (i : Nat)) 0 := rfl
  rw [hst, forLoop l.length (fun i : Nat => st_toRmS_1 l l.length (atL Rm.cs (fill l default i)) (i : Nat)) (ex_toRmS_1_1 l l.length (atL Rm.cs l) l.length) 0 (fun i K hi => ?_) (fun K => ?_) _ (Nat.le_refl _)]
  · rw [post_toRmS_1_1]
    simp only [ble_d, Nat.le_refl, decide_true, gd_true, Bool.and_true]
    rfl
  · have hx := List.getElem?_eq_getElem hi
    have h0 := (hl.2 _ (List.getElem_mem hi)).1
    have h1 := (hl.2 _ (List.getElem_mem hi)).2.1
    have h2 := (hl.2 _ (List.getElem_mem hi)).2.2
    have hd : (fill l default i)[i]? = some default := by
      unfold fill
      rw [List.getElem?_append_right (by simp; omega), List.getElem?_replicate, if_pos (by simp; omega)]
    rw [round_toRmS_1]
    simp only [lt_d, ge0_d, Int.toNat_natCast, blt_d, ble_self, beq_self, decide_true, cond_true, Bool.and_self, Bool.and_true, Bool.true_and, gd_true, Nat.zero_add, List.getD_cons_zero, List.getD_cons_succ, isI_int, toI_int, isB_bool, toB_bool, eL_T, arr_ln, arr_fn, arr_wd, arr_is, arr_get, hi, atL_of hx, Rm.cs, dm_toHdS h0, iv_toHdS h0, dm_toSfS h1, iv_toSfS h1, dm_toLI h2, iv_toLI h2]
    rw [wrapS (by omega), ← fill_set l default hx]
    congr 3
    refine set_atL (by rw [fill_len l default (by omega)]; exact hi) fun j' k' => ?_
    by_cases e : j' = i
    · subst e
      rcases k' with _ | _ | _ | _ | _ | _ | _ | _ | _ | _ | _ | k' <;> simp [setF_d, Rm.cs, atL_of hd, eL_T]
    · simp [setF_d, e]
  · rw [round_toRmS_1, fill_all]
    simp only [lt_d, Nat.lt_irrefl, decide_false, cond_false]
theorem s_toRmS : EntOk prog i_toRmS e_toRmS := ent_ok ea_RmS_inj fun l hl =>
  body_sound (φ := (tabS [(i_toRm, e_toRm)])) (tabS_cons s_toRm tabS_nil) mixed (kp := kp_toRmS) (n := l.length + 1) func76 (c := bodyOf F_toRmS) (by kernel_rfl) (body_toRmS l hl) (name_ok (by kernel_rfl))
def i_eqRmS : Nat := 79
noncomputable abbrev F_eqRmS : Func := f79
def kp_eqRmS : List (Nat × List Nat) := [(0, [0, 4]), (1, [0, 4, 40]), (2, [16]), (3, [0, 4, 20]), (4, [0, 4, 20, 56]), (5, [0, 4, 20]), (6, [0, 4, 20, 104]), (7, [16]), (8, [16])]
def ts_eqRmS : List Nat := [0, 0]
def st_eqRmS_1 (l r : List Rm) (x20 : Int) : St := [(0, ⟨z0, [(false, [.tr false (eL 11 Rm.cs l)])]⟩), (4, ⟨z0, [(false, [.tr false (eL 11 Rm.cs r)])]⟩), (20, ⟨z0, [(false, [.tr true (T.int IntKind.i64 x20)])]⟩)]
def ex_eqRmS_1_1 (l r : List Rm) (x20 : Int) : St := [(16, ⟨z0, [(false, [.tr true (T.bool false)])]⟩)]
def ex_eqRmS_1_2 (l r : List Rm) (x20 : Int) : St := [(0, ⟨z0, [(false, [.tr false (eL 11 Rm.cs l)])]⟩), (4, ⟨z0, [(false, [.tr false (eL 11 Rm.cs r)])]⟩), (20, ⟨z0, [(false, [.tr true (T.int IntKind.i64 x20)])]⟩), (56, ⟨z0, []⟩)]
theorem round_eqRmS_1 (l r : List Rm) (x20 : Int) (n : Nat) (K : Ex → St → Res) : roundAt prog (tabS [(i_eqRm, e_eqRm)]) kp_eqRmS F_eqRmS [1, 1, 0, 1, 0] n (st_eqRmS_1 l r x20) K = (
 bif decide (x20 < (↑l.length : Int)) then
  gd (decide (0 ≤ x20) && (x20.toNat.blt l.length && true)) <|
  gd (T.isI IntKind.i64 (atL Rm.cs l x20.toNat 0) && T.isI IntKind.i64 (atL Rm.cs l x20.toNat 1) &&
                  T.isI IntKind.i64 (atL Rm.cs l x20.toNat 2) &&
                T.isI IntKind.i64 (atL Rm.cs l x20.toNat 3) &&
              ((atL Rm.cs l x20.toNat 4).isArr && (atL Rm.cs l x20.toNat 4).wd.beq 2) &&
            T.isI IntKind.i64 (atL Rm.cs l x20.toNat 5) &&
          T.isI IntKind.i64 (atL Rm.cs l x20.toNat 6) &&
        (atL Rm.cs l x20.toNat 7).isB &&
      T.isI IntKind.i64 (atL Rm.cs l x20.toNat 8) &&
    ((atL Rm.cs l x20.toNat 9).isArr && (atL Rm.cs l x20.toNat 9).wd.beq 1) &&
  ((atL Rm.cs l x20.toNat 10).isArr && (atL Rm.cs l x20.toNat 10).wd.beq 1)) <|
  gd (decide (0 ≤ x20) && (x20.toNat.blt r.length && true)) <|
  gd (T.isI IntKind.i64 (atL Rm.cs r x20.toNat 0) && T.isI IntKind.i64 (atL Rm.cs r x20.toNat 1) &&
                  T.isI IntKind.i64 (atL Rm.cs r x20.toNat 2) &&
                T.isI IntKind.i64 (atL Rm.cs r x20.toNat 3) &&
              ((atL Rm.cs r x20.toNat 4).isArr && (atL Rm.cs r x20.toNat 4).wd.beq 2) &&
            T.isI IntKind.i64 (atL Rm.cs r x20.toNat 5) &&
          T.isI IntKind.i64 (atL Rm.cs r x20.toNat 6) &&
        (atL Rm.cs r x20.toNat 7).isB &&
      T.isI IntKind.i64 (atL Rm.cs r x20.toNat 8) &&
    ((atL Rm.cs r x20.toNat 9).isArr && (atL Rm.cs r x20.toNat 9).wd.beq 1) &&
  ((atL Rm.cs r x20.toNat 10).isArr && (atL Rm.cs r x20.toNat 10).wd.beq 1)) <|
  bif (atL Rm.cs l x20.toNat 0).toI != (atL Rm.cs r x20.toNat 0).toI then
   K .ret (ex_eqRmS_1_1 l r x20)
  else
  bif (atL Rm.cs l x20.toNat 1).toI != (atL Rm.cs r x20.toNat 1).toI then
   K .ret (ex_eqRmS_1_1 l r x20)
  else
  bif (atL Rm.cs l x20.toNat 2).toI != (atL Rm.cs r x20.toNat 2).toI then
   K .ret (ex_eqRmS_1_1 l r x20)
  else
  bif (atL Rm.cs l x20.toNat 3).toI != (atL Rm.cs r x20.toNat 3).toI then
   K .ret (ex_eqRmS_1_1 l r x20)
  else
  gd (dom ok2_HdS ea2_HdS
  [(0, false, [C.tr false (T.arr 2 (atL Rm.cs l x20.toNat 4).ln (atL Rm.cs l x20.toNat 4).fn)]),
    (0, false, [C.tr false (T.arr 2 (atL Rm.cs r x20.toNat 4).ln (atL Rm.cs r x20.toNat 4).fn)])]) <|
  bif !f_eqHdS
    (inv ok2_HdS ea2_HdS
      [(0, false, [C.tr false (T.arr 2 (atL Rm.cs l x20.toNat 4).ln (atL Rm.cs l x20.toNat 4).fn)]),
        (0, false, [C.tr false (T.arr 2 (atL Rm.cs r x20.toNat 4).ln (atL Rm.cs r x20.toNat 4).fn)])]) then
   K .ret (ex_eqRmS_1_1 l r x20)
  else
  bif (atL Rm.cs l x20.toNat 5).toI != (atL Rm.cs r x20.toNat 5).toI then
   K .ret (ex_eqRmS_1_1 l r x20)
  else
  bif (atL Rm.cs l x20.toNat 6).toI != (atL Rm.cs r x20.toNat 6).toI then
   K .ret (ex_eqRmS_1_1 l r x20)
  else
  bif !(atL Rm.cs l x20.toNat 7).toB == (atL Rm.cs r x20.toNat 7).toB then
   K .ret (ex_eqRmS_1_1 l r x20)
  else
  bif (atL Rm.cs l x20.toNat 8).toI != (atL Rm.cs r x20.toNat 8).toI then
   K .ret (ex_eqRmS_1_1 l r x20)
  else
  gd (dom ok2_SfS ea2_SfS
  [(0, false, [C.tr false (T.arr 1 (atL Rm.cs l x20.toNat 9).ln (atL Rm.cs l x20.toNat 9).fn)]),
    (0, false, [C.tr false (T.arr 1 (atL Rm.cs r x20.toNat 9).ln (atL Rm.cs r x20.toNat 9).fn)])]) <|
  bif !f_eqSfS
    (inv ok2_SfS ea2_SfS
      [(0, false, [C.tr false (T.arr 1 (atL Rm.cs l x20.toNat 9).ln (atL Rm.cs l x20.toNat 9).fn)]),
        (0, false, [C.tr false (T.arr 1 (atL Rm.cs r x20.toNat 9).ln (atL Rm.cs r x20.toNat 9).fn)])]) then
   K .ret (ex_eqRmS_1_1 l r x20)
  else
  gd (dom ok2_LI ea2_LI
  [(0, false, [C.tr false (T.arr 1 (atL Rm.cs l x20.toNat 10).ln (atL Rm.cs l x20.toNat 10).fn)]),
    (0, false, [C.tr false (T.arr 1 (atL Rm.cs r x20.toNat 10).ln (atL Rm.cs r x20.toNat 10).fn)])]) <|
  bif !f_eqLI
    (inv ok2_LI ea2_LI
      [(0, false, [C.tr false (T.arr 1 (atL Rm.cs l x20.toNat 10).ln (atL Rm.cs l x20.toNat 10).fn)]),
        (0, false, [C.tr false (T.arr 1 (atL Rm.cs r x20.toNat 10).ln (atL Rm.cs r x20.toNat 10).fn)])]) then
   K .ret (ex_eqRmS_1_1 l r x20)
  else
  K .normal (st_eqRmS_1 l r (IntKind.i64.wrap (x20 + 1)))
 else
 K (.exit 0) (ex_eqRmS_1_2 l r x20)) := by kernel_rfl
theorem post_eqRmS_1_1 (l r : List Rm) (x20 : Int) (n : Nat) : contAt prog (tabS [(i_eqRm, e_eqRm)]) kp_eqRmS F_eqRmS ts_eqRmS [1, 1, 0, 1, 0] [] n .ret (ex_eqRmS_1_1 l r x20) = (
 some ([(false, [.tr true (T.bool false)])], [(false, []), (false, [])])) := by kernel_rfl
theorem post_eqRmS_1_2 (l r : List Rm) (x20 : Int) (n : Nat) : contAt prog (tabS [(i_eqRm, e_eqRm)]) kp_eqRmS F_eqRmS ts_eqRmS [1, 1, 0, 1, 0] [] n (.exit 0) (ex_eqRmS_1_2 l r x20) = (
 some ([(false, [.tr true (T.bool true)])], [(false, []), (false, [])])) := by kernel_rfl
theorem pre_eqRmS (l r : List Rm) (n : Nat) : body prog (tabS [(i_eqRm, e_eqRm)]) kp_eqRmS n F_eqRmS [aT (eL 11 Rm.cs l), aT (eL 11 Rm.cs r)] = (
 bif (↑l.length : Int) != (↑r.length : Int) then
  some ([(false, [.tr true (T.bool false)])], [(false, []), (false, [])])
 else
 loopAt prog (tabS [(i_eqRm, e_eqRm)]) kp_eqRmS F_eqRmS [1, 1, 0, 1, 0] n n (st_eqRmS_1 l r (0)) (contAt prog (tabS [(i_eqRm, e_eqRm)]) kp_eqRmS F_eqRmS ts_eqRmS [1, 1, 0, 1, 0] [] n)) := by kernel_rfl
theorem body_eqRmS (l r : List Rm) (hl : okq_RmS l) : body prog (tabS [(i_eqRm, e_eqRm)]) kp_eqRmS (l.length + 1) F_eqRmS (ea2_RmS (l, r)) = some (erB 2 (f_eqRmS (l, r))) := by
  have hbm := bm
  have hl' : l.length ≤ BM := hl.1
  unfold ea2_RmS f_eqRmS
  dsimp only
  rw [pre_eqRmS, int_ne]
  by_cases h : l.length = r.length
  · rw [decide_eq_true (by omega)]
    simp only [Bool.not_true, cond_false]
    have hst : st_eqRmS_1 l r 0 = (fun i : Nat => st_eqRmS_1 l r (i : Nat)) 0 := rfl
    rw [hst, eqS l r h (fun i : Nat => st_eqRmS_1 l r (i : Nat)) (fun i : Nat => ex_eqRmS_1_1 l r (i : Nat)) (ex_eqRmS_1_2 l r l.length) (fun i x y K hx hy => ?_) (fun K => ?_) (fun i => post_eqRmS_1_1 l r _ _) (post_eqRmS_1_2 l r _ _) _ (Nat.le_refl _)]
    · by_cases e : l = r
      · rw [if_pos e, decide_eq_true e]; rfl
      · rw [if_neg e, decide_eq_false e]; rfl
    · have hi := (List.getElem?_eq_some_iff.1 hx).1
      have hi' := (List.getElem?_eq_some_iff.1 hy).1
      have hxm : x ∈ l := List.mem_of_getElem? hx
      have h0 := (hl.2 _ hxm).1
      have h1 := (hl.2 _ hxm).2.1
      have h2 := (hl.2 _ hxm).2.2
      rw [round_eqRmS_1]
      simp only [lt_d, ge0_d, Int.toNat_natCast, blt_d, ble_self, beq_self, decide_true, cond_true, Bool.and_self, Bool.and_true, Bool.true_and, gd_true, Nat.zero_add, List.getD_cons_zero, List.getD_cons_succ, isI_int, toI_int, isB_bool, toB_bool, eL_T, arr_ln, arr_fn, arr_wd, arr_is, arr_get, hi, hi', atL_of hx, atL_of hy, Rm.cs, int_ne, bool_ne, bool_eq, dm_eqHdS h0, iv_eqHdS h0, d_eqHdS, dm_eqSfS h1, iv_eqSfS h1, d_eqSfS, dm_eqLI h2, iv_eqLI h2, d_eqLI, chain]
      rw [wrapS (by omega)]
      have hxy : (x.h.slot = y.h.slot ∧ x.h.gen = y.h.gen ∧ x.up.slot = y.up.slot ∧ x.up.gen = y.up.gen ∧ x.kids = y.kids ∧ x.ep = y.ep ∧ x.chunks = y.chunks ∧ x.cur = y.cur ∧ x.bump = y.bump ∧ x.things = y.things ∧ x.tags = y.tags) ↔ x = y := by
        rcases x with ⟨⟨x0, x1⟩, ⟨x2, x3⟩, x4, x5, x6, x7, x8, x9, x10⟩
        rcases y with ⟨⟨y0, y1⟩, ⟨y2, y3⟩, y4, y5, y6, y7, y8, y9, y10⟩
        simp [and_assoc]
      simp only [hxy]
    · rw [round_eqRmS_1]
      simp only [lt_d, Nat.lt_irrefl, decide_false, cond_false]
  · rw [decide_eq_false (by omega)]
    have : ¬ l = r := fun e => h (by rw [e])
    rw [decide_eq_false this]
    rfl
theorem s_eqRmS : EntOk prog i_eqRmS e_eqRmS := ent_ok ea2_RmS_inj fun x hx =>
  body_sound (φ := (tabS [(i_eqRm, e_eqRm)])) (tabS_cons s_eqRm tabS_nil) mixed (kp := kp_eqRmS) (n := x.1.length + 1) func79 (c := bodyOf F_eqRmS) (by kernel_rfl) (body_eqRmS x.1 x.2 hx) (name_ok (by kernel_rfl))
theorem dm_toRmS {l : List Rm} (h : ok_RmS l) : dom ok_RmS ea_RmS [(0, false, [C.tr false (T.arr 11 l.length (atL Rm.cs l))])] = true := dom_ea (ea := ea_RmS) (x := l) h
theorem iv_toRmS {l : List Rm} (h : ok_RmS l) : inv ok_RmS ea_RmS [(0, false, [C.tr false (T.arr 11 l.length (atL Rm.cs l))])] = l := inv_ea ea_RmS_inj (x := l) h
theorem dm_eqRmS {l r : List Rm} (h : okq_RmS l) : dom ok2_RmS ea2_RmS [(0, false, [C.tr false (T.arr 11 l.length (atL Rm.cs l))]), (0, false, [C.tr false (T.arr 11 r.length (atL Rm.cs r))])] = true := dom_ea (ea := ea2_RmS) (x := (l, r)) h
theorem iv_eqRmS {l r : List Rm} (h : okq_RmS l) : inv ok2_RmS ea2_RmS [(0, false, [C.tr false (T.arr 11 l.length (atL Rm.cs l))]), (0, false, [C.tr false (T.arr 11 r.length (atL Rm.cs r))])] = (l, r) := inv_ea ea2_RmS_inj (x := (l, r)) h
theorem d_eqRmS (l r : List Rm) : f_eqRmS (l, r) = decide (l = r) := rfl
def n1_RmS (x : Rm) : Nat := n_HdS x.kids + n_SfS x.things + n_LI x.tags
def n_RmS (l : List Rm) : Nat := l.length + cntL n1_RmS l
def okz_RmS (l : List Rm) : Prop := l.length ≤ ZM ∧ ∀ x ∈ l, okz_HdS x.kids ∧ okz_SfS x.things ∧ okz_LI x.tags
def okzz_RmS (x : List Rm × Int) : Prop := okz_RmS x.1 ∧ 0 ≤ x.2 ∧ x.2 ≤ LM
def eaz_RmS (x : List Rm × Int) : List Arg := [aT (eL 11 Rm.cs x.1), aI x.2]
def f_szRmS (x : List Rm × Int) : Int := if (n_RmS x.1 : Int) ≤ x.2 then x.2 - n_RmS x.1 else -1
noncomputable def e_szRmS : Ent := ent [] okzz_RmS eaz_RmS (erI 2) f_szRmS
theorem eaz_RmS_inj (x y : List Rm × Int) (h : eaz_RmS x = eaz_RmS y) : x = y := by
  simp only [eaz_RmS, aI, aT, List.cons.injEq, Prod.mk.injEq, true_and, and_true, C.tr.injEq, T.int.injEq] at h
  exact Prod.ext (eL_inj Rm.cs_inj h.1) h.2
theorem dm_szRmS {l : List Rm} {k : Int} (h : okzz_RmS (l, k)) : dom okzz_RmS eaz_RmS [(0, false, [C.tr false (T.arr 11 l.length (atL Rm.cs l))]), (0, false, [C.tr false (T.int IntKind.i64 k)])] = true := dom_ea (ea := eaz_RmS) (x := (l, k)) h
theorem iv_szRmS {l : List Rm} {k : Int} (h : okzz_RmS (l, k)) : inv okzz_RmS eaz_RmS [(0, false, [C.tr false (T.arr 11 l.length (atL Rm.cs l))]), (0, false, [C.tr false (T.int IntKind.i64 k)])] = (l, k) := inv_ea eaz_RmS_inj (x := (l, k)) h
theorem y_szRmS {l : List Rm} {k : Int} (h : (n_RmS l : Int) ≤ k) : f_szRmS (l, k) = k - n_RmS l := if_pos h
theorem n_szRmS {l : List Rm} {k : Int} (h : ¬ (n_RmS l : Int) ≤ k) : f_szRmS (l, k) = -1 := if_neg h
def i_szRmS : Nat := 73
noncomputable abbrev F_szRmS : Func := f73
def kp_szRmS : List (Nat × List Nat) := [(0, [0, 4]), (1, [0, 4]), (2, [0, 4, 44]), (3, [16]), (4, [0, 4, 20]), (5, [0, 4, 20, 60]), (6, [0, 4, 20]), (7, [0, 4, 20]), (8, [0, 4, 20, 100]), (9, [16]), (10, [16])]
def ts_szRmS : List Nat := [0, 0]
def st_szRmS_1 (l : List Rm) (k : Int) (x4 : Int) (x20 : Int) : St := [(0, ⟨z0, [(false, [.tr false (eL 11 Rm.cs l)])]⟩), (4, ⟨z0, [(false, [.tr true (T.int IntKind.i64 x4)])]⟩), (20, ⟨z0, [(false, [.tr true (T.int IntKind.i64 x20)])]⟩)]
def ex_szRmS_1_1 (l : List Rm) (k : Int) (x4 : Int) (x20 : Int) : St := [(16, ⟨z0, [(false, [.tr true (T.int IntKind.i64 (-1))])]⟩)]
def ex_szRmS_1_2 (l : List Rm) (k : Int) (x4 : Int) (x20 : Int) : St := [(0, ⟨z0, [(false, [.tr false (eL 11 Rm.cs l)])]⟩), (4, ⟨z0, [(false, [.tr true (T.int IntKind.i64 x4)])]⟩), (20, ⟨z0, [(false, [.tr true (T.int IntKind.i64 x20)])]⟩), (60, ⟨z0, []⟩)]
theorem round_szRmS_1 (l : List Rm) (k : Int) (x4 : Int) (x20 : Int) (n : Nat) (K : Ex → St → Res) : roundAt prog (tabS [(i_szRm, e_szRm)]) kp_szRmS F_szRmS [1, 1, 1, 0, 1, 0] n (st_szRmS_1 l k x4 x20) K = (
 bif decide (x20 < (↑l.length : Int)) then
  gd (decide (0 ≤ x20) && (x20.toNat.blt l.length && true)) <|
  gd (T.isI IntKind.i64 (atL Rm.cs l x20.toNat 0) && T.isI IntKind.i64 (atL Rm.cs l x20.toNat 1) &&
                  T.isI IntKind.i64 (atL Rm.cs l x20.toNat 2) &&
                T.isI IntKind.i64 (atL Rm.cs l x20.toNat 3) &&
              ((atL Rm.cs l x20.toNat 4).isArr && (atL Rm.cs l x20.toNat 4).wd.beq 2) &&
            T.isI IntKind.i64 (atL Rm.cs l x20.toNat 5) &&
          T.isI IntKind.i64 (atL Rm.cs l x20.toNat 6) &&
        (atL Rm.cs l x20.toNat 7).isB &&
      T.isI IntKind.i64 (atL Rm.cs l x20.toNat 8) &&
    ((atL Rm.cs l x20.toNat 9).isArr && (atL Rm.cs l x20.toNat 9).wd.beq 1) &&
  ((atL Rm.cs l x20.toNat 10).isArr && (atL Rm.cs l x20.toNat 10).wd.beq 1)) <|
  bif decide (IntKind.i64.wrap (x4 - (↑(atL Rm.cs l x20.toNat 4).ln : Int)) < 0) then
   K .ret (ex_szRmS_1_1 l k x4 x20)
  else
  bif decide (IntKind.i64.wrap (x4 - (↑(atL Rm.cs l x20.toNat 4).ln : Int)) < 0) then
   K .ret (ex_szRmS_1_1 l k x4 x20)
  else
  gd (dom okzz_SfS eaz_SfS
  [(0, false, [C.tr false (T.arr 1 (atL Rm.cs l x20.toNat 9).ln (atL Rm.cs l x20.toNat 9).fn)]),
    (0, false, [C.tr false (T.int IntKind.i64 (IntKind.i64.wrap (x4 - (↑(atL Rm.cs l x20.toNat 4).ln : Int))))])]) <|
  bif decide
  (f_szSfS
      (inv okzz_SfS eaz_SfS
        [(0, false, [C.tr false (T.arr 1 (atL Rm.cs l x20.toNat 9).ln (atL Rm.cs l x20.toNat 9).fn)]),
          (0, false,
            [C.tr false (T.int IntKind.i64 (IntKind.i64.wrap (x4 - (↑(atL Rm.cs l x20.toNat 4).ln : Int))))])]) <
    0) then
   K .ret (ex_szRmS_1_1 l k x4 x20)
  else
  bif decide
  (IntKind.i64.wrap
      (f_szSfS
          (inv okzz_SfS eaz_SfS
            [(0, false, [C.tr false (T.arr 1 (atL Rm.cs l x20.toNat 9).ln (atL Rm.cs l x20.toNat 9).fn)]),
              (0, false,
                [C.tr false (T.int IntKind.i64 (IntKind.i64.wrap (x4 - (↑(atL Rm.cs l x20.toNat 4).ln : Int))))])]) -
        (↑(atL Rm.cs l x20.toNat 10).ln : Int)) <
    0) then
   K .ret (ex_szRmS_1_1 l k x4 x20)
  else
  bif decide
  (IntKind.i64.wrap
      (f_szSfS
          (inv okzz_SfS eaz_SfS
            [(0, false, [C.tr false (T.arr 1 (atL Rm.cs l x20.toNat 9).ln (atL Rm.cs l x20.toNat 9).fn)]),
              (0, false,
                [C.tr false (T.int IntKind.i64 (IntKind.i64.wrap (x4 - (↑(atL Rm.cs l x20.toNat 4).ln : Int))))])]) -
        (↑(atL Rm.cs l x20.toNat 10).ln : Int)) <
    0) then
   K .ret (ex_szRmS_1_1 l k x4 x20)
  else
  bif decide
  (IntKind.i64.wrap
      (f_szSfS
          (inv okzz_SfS eaz_SfS
            [(0, false, [C.tr false (T.arr 1 (atL Rm.cs l x20.toNat 9).ln (atL Rm.cs l x20.toNat 9).fn)]),
              (0, false,
                [C.tr false (T.int IntKind.i64 (IntKind.i64.wrap (x4 - (↑(atL Rm.cs l x20.toNat 4).ln : Int))))])]) -
        (↑(atL Rm.cs l x20.toNat 10).ln : Int)) <
    0) then
   K .ret (ex_szRmS_1_1 l k x4 x20)
  else
  K .normal (st_szRmS_1 l k (IntKind.i64.wrap
  (f_szSfS
      (inv okzz_SfS eaz_SfS
        [(0, false, [C.tr false (T.arr 1 (atL Rm.cs l x20.toNat 9).ln (atL Rm.cs l x20.toNat 9).fn)]),
          (0, false,
            [C.tr false (T.int IntKind.i64 (IntKind.i64.wrap (x4 - (↑(atL Rm.cs l x20.toNat 4).ln : Int))))])]) -
    (↑(atL Rm.cs l x20.toNat 10).ln : Int))) (IntKind.i64.wrap (x20 + 1)))
 else
 K (.exit 0) (ex_szRmS_1_2 l k x4 x20)) := by kernel_rfl
theorem post_szRmS_1_1 (l : List Rm) (k : Int) (x4 : Int) (x20 : Int) (n : Nat) : contAt prog (tabS [(i_szRm, e_szRm)]) kp_szRmS F_szRmS ts_szRmS [1, 1, 1, 0, 1, 0] [] n .ret (ex_szRmS_1_1 l k x4 x20) = (
 some ([(false, [.tr true (T.int IntKind.i64 (-1))])], [(false, []), (false, [])])) := by kernel_rfl
theorem post_szRmS_1_2 (l : List Rm) (k : Int) (x4 : Int) (x20 : Int) (n : Nat) : contAt prog (tabS [(i_szRm, e_szRm)]) kp_szRmS F_szRmS ts_szRmS [1, 1, 1, 0, 1, 0] [] n (.exit 0) (ex_szRmS_1_2 l k x4 x20) = (
 some ([(false, [.tr true (T.int IntKind.i64 x4)])], [(false, []), (false, [])])) := by kernel_rfl
theorem pre_szRmS (l : List Rm) (k : Int) (n : Nat) : body prog (tabS [(i_szRm, e_szRm)]) kp_szRmS n F_szRmS [aT (eL 11 Rm.cs l), aI k] = (
 bif decide (IntKind.i64.wrap (k - (↑l.length : Int)) < 0) then
  some ([(false, [.tr true (T.int IntKind.i64 (-1))])], [(false, []), (false, [])])
 else
 loopAt prog (tabS [(i_szRm, e_szRm)]) kp_szRmS F_szRmS [1, 1, 1, 0, 1, 0] n n (st_szRmS_1 l k (IntKind.i64.wrap (k - (↑l.length : Int))) (0)) (contAt prog (tabS [(i_szRm, e_szRm)]) kp_szRmS F_szRmS ts_szRmS [1, 1, 1, 0, 1, 0] [] n)) := by kernel_rfl
theorem round1_szRmS (l : List Rm) (k : Int) (hl : okz_RmS l) {n : Nat} (i : Nat) (x : Rm) (K : Ex → St → Res) (hx : l[i]? = some x) (hr : (cntL n1_RmS (l.take i) : Int) ≤ k - (l.length : Int)) (hk1 : k ≤ LM) : roundAt prog (tabS [(i_szRm, e_szRm)]) kp_szRmS F_szRmS [1, 1, 1, 0, 1, 0] n (st_szRmS_1 l k (k - (l.length : Int) - cntL n1_RmS (l.take i)) (i : Nat)) K = bif decide (k - (l.length : Int) - cntL n1_RmS (l.take i) < n1_RmS x) then K .ret (ex_szRmS_1_1 l k (k - (l.length : Int) - cntL n1_RmS (l.take i)) (i : Nat)) else K .normal (st_szRmS_1 l k (k - (l.length : Int) - cntL n1_RmS (l.take (i + 1))) ((i + 1 : Nat) : Int)) := by
    have hzm := zm
    have hlm := lm
    have hl' : l.length ≤ ZM := hl.1
    have hi := (List.getElem?_eq_some_iff.1 hx).1
    have hxm : x ∈ l := List.mem_of_getElem? hx
    have hc := cntL_take n1_RmS l hx
    have hcx : n1_RmS x = x.kids.length + n_SfS x.things + x.tags.length := rfl
    rw [hc, round_szRmS_1]
    obtain ⟨k0, hk⟩ : ∃ k0, k0 = k - (l.length : Int) - (cntL n1_RmS (l.take i) : Int) := ⟨_, rfl⟩
    have hk2 : k - (l.length : Int) - ((cntL n1_RmS (l.take i) + n1_RmS x : Nat) : Int) = k0 - (x.kids.length : Int) - (n_SfS x.things : Int) - (x.tags.length : Int) := by omega
    rw [hk2, ← hk]
    have hk3 : 0 ≤ k0 := by omega
    have hk4 : k0 ≤ LM := by omega
    simp (disch := omega) only [lt_d, ge0_d, Int.toNat_natCast, blt_d, ble_self, beq_self, decide_true, cond_true, Bool.and_self, Bool.and_true, Bool.true_and, gd_true, Nat.zero_add, List.getD_cons_zero, List.getD_cons_succ, isI_int, toI_int, isB_bool, toB_bool, eL_T, arr_ln, arr_fn, arr_wd, arr_is, arr_get, hi, atL_of hx, Rm.cs, wrapS]
    have h0 : x.kids.length ≤ ZM := (hl.2 _ hxm).1
    have h1 : x.things.length ≤ ZM := ((hl.2 _ hxm).2.1).1
    have h2 : x.tags.length ≤ ZM := (hl.2 _ hxm).2.2
    try simp (disch := omega) only [wrapI]
    by_cases e0 : k0 - (x.kids.length : Int) < 0
    case pos =>
      rw [decide_eq_true e0, decide_eq_true (show k0 < (n1_RmS x : Int) by omega)]
      rfl
    simp (disch := omega) only [decide_eq_false e0, cond_false, wrapI]
    have g1 : okzz_SfS (x.things, k0 - (x.kids.length : Int)) := ⟨(hl.2 _ hxm).2.1, by dsimp only; omega, by dsimp only; omega⟩
    simp only [dm_szSfS g1, iv_szSfS g1, gd_true]
    by_cases e1 : (n_SfS x.things : Int) ≤ k0 - (x.kids.length : Int)
    case neg =>
      simp only [n_szSfS e1]
      rw [decide_eq_true (show (-1 : Int) < 0 by omega), decide_eq_true (show k0 < (n1_RmS x : Int) by omega)]
      rfl
    simp only [y_szSfS e1]
    simp (disch := omega) only [decide_eq_false (show ¬ k0 - (x.kids.length : Int) - (n_SfS x.things : Int) < 0 by omega), cond_false, wrapI]
    try simp (disch := omega) only [wrapI]
    by_cases e2 : k0 - (x.kids.length : Int) - (n_SfS x.things : Int) - (x.tags.length : Int) < 0
    case pos =>
      rw [decide_eq_true e2, decide_eq_true (show k0 < (n1_RmS x : Int) by omega)]
      rfl
    simp (disch := omega) only [decide_eq_false e2, cond_false, wrapI]
    rw [decide_eq_false (show ¬ k0 < (n1_RmS x : Int) by omega)]
    simp only [cond_false]
    try congr 2
    try omega
theorem body_szRmS (l : List Rm) (k : Int) (h : okzz_RmS (l, k)) : body prog (tabS [(i_szRm, e_szRm)]) kp_szRmS (l.length + 1) F_szRmS (eaz_RmS (l, k)) = some (erI 2 (f_szRmS (l, k))) := by
  obtain ⟨hl, hk0, hk1⟩ := h
  have hzm := zm
  have hlm := lm
  dsimp only at hl hk0 hk1
  have hl' : l.length ≤ ZM := hl.1
  have hn : n_RmS l = l.length + cntL n1_RmS l := rfl
  unfold eaz_RmS f_szRmS
  dsimp only
  rw [pre_szRmS]
  simp (disch := omega) only [wrapI]
  by_cases hs : k - (l.length : Int) < 0
  · rw [decide_eq_true hs, if_neg (by omega)]
    rfl
  · rw [decide_eq_false hs]
    simp only [cond_false]
    have hst : st_szRmS_1 l k (k - (l.length : Int)) 0 = (fun i : Nat => st_szRmS_1 l k (k - (l.length : Int) - cntL n1_RmS (l.take i)) (i : Nat)) 0 := by simp [cntL]
    rw [hst, szS n1_RmS l (k - (l.length : Int)) (by omega) (fun i : Nat => st_szRmS_1 l k (k - (l.length : Int) - cntL n1_RmS (l.take i)) (i : Nat)) (fun i : Nat => ex_szRmS_1_1 l k (k - (l.length : Int) - cntL n1_RmS (l.take i)) (i : Nat)) (ex_szRmS_1_2 l k (k - (l.length : Int) - cntL n1_RmS l) l.length) (fun i x K hx hr => ?_) (fun K hr => ?_) (fun i => post_szRmS_1_1 l k _ _ _) (post_szRmS_1_2 l k _ _ _) _ (Nat.le_refl _)]
    · by_cases hq : (cntL n1_RmS l : Int) ≤ k - (l.length : Int)
      · rw [if_pos hq, if_pos (by omega), show k - (l.length : Int) - (cntL n1_RmS l : Int) = k - (n_RmS l : Int) by omega]
        rfl
      · rw [if_neg hq, if_neg (by omega)]
        rfl
    · exact round1_szRmS l k hl i x K hx hr hk1
    · rw [round_szRmS_1]
      simp only [lt_d, Nat.lt_irrefl, decide_false, cond_false, List.take_length]
theorem s_szRmS : EntOk prog i_szRmS e_szRmS := ent_ok eaz_RmS_inj fun x hx =>
  body_sound (φ := (tabS [(i_szRm, e_szRm)])) (tabS_cons s_szRm tabS_nil) mixed (kp := kp_szRmS) (n := x.1.length + 1) func73 (c := bodyOf F_szRmS) (by kernel_rfl) (body_szRmS x.1 x.2 hx) (name_ok (by kernel_rfl))
end Go.Mach.F
namespace Go.Mach.F
open Go Go.Mach Go.Proofs.Try
--=set_option maxRecDepth 100000
theorem Ml.cs_inj (x y : Ml) (h : ∀ k, x.cs.getD k .hole = y.cs.getD k .hole) : x = y := by
  have h0 := h 0; have h1 := h 1; have h2 := h 2; have h3 := h 3; have h4 := h 4; have h5 := h 5; have h6 := h 6; have h7 := h 7
  rcases x with ⟨⟨x0, x1, x2, x3, x4, x5⟩, x6, x7⟩
  rcases y with ⟨⟨y0, y1, y2, y3, y4, y5⟩, y6, y7⟩
  simp only [Ml.cs, List.getD_cons_zero, List.getD_cons_succ, T.int.injEq, T.bool.injEq, true_and] at h0 h1 h2 h3 h4 h5 h6 h7
  replace h6 := eL_inj Rm.cs_inj h6
  replace h7 := eI_inj h7
  subst h0; subst h1; subst h2; subst h3; subst h4; subst h5; subst h6; subst h7
  rfl
theorem Rm.cs_ext {x y : Rm} (h : x.cs = y.cs) : x = y := Rm.cs_inj x y fun k => by rw [h]
theorem Ml.cs_ext {x y : Ml} (h : x.cs = y.cs) : x = y := Ml.cs_inj x y fun k => by rw [h]
abbrev shSf : List Sh := [.arr [.int .u8]]
def z_Sf (x : Sf) : Prop := okz_LB x.b
theorem sh_Sf {ts : List T} (hh : ShTs ts shSf) : ∃ x : Sf, ts = x.cs ∧ z_Sf x := by
  obtain ⟨t0, ts, rfl, h0, hh⟩ := shs_cons hh
  obtain rfl := shs_nil hh
  obtain ⟨x0, rfl, z0⟩ := sh_LB h0
  exact ⟨⟨x0⟩, rfl, z0⟩
theorem sh_SfS {t : T} (h : ShT t (.arr shSf)) : ∃ l : List Sf, t = eL 1 Sf.cs l ∧ l.length ≤ ZM ∧ ∀ x ∈ l, z_Sf x := sh_list z_Sf (fun _ => rfl) (fun _ hts => sh_Sf hts) h
abbrev shRm : List Sh := [.int .i64, .int .i64, .int .i64, .int .i64, .arr shHd, .int .i64, .int .i64, .bool, .int .i64, .arr shSf, .arr [.int .i64]]
def z_Rm (x : Rm) : Prop := okz_HdS x.kids ∧ okz_SfS x.things ∧ okz_LI x.tags
theorem sh_Rm {ts : List T} (hh : ShTs ts shRm) : ∃ x : Rm, ts = x.cs ∧ z_Rm x := by
  obtain ⟨t0, ts, rfl, h0, hh⟩ := shs_cons hh
  obtain ⟨t1, ts, rfl, h1, hh⟩ := shs_cons hh
  obtain ⟨t2, ts, rfl, h2, hh⟩ := shs_cons hh
  obtain ⟨t3, ts, rfl, h3, hh⟩ := shs_cons hh
  obtain ⟨t4, ts, rfl, h4, hh⟩ := shs_cons hh
  obtain ⟨t5, ts, rfl, h5, hh⟩ := shs_cons hh
  obtain ⟨t6, ts, rfl, h6, hh⟩ := shs_cons hh
  obtain ⟨t7, ts, rfl, h7, hh⟩ := shs_cons hh
  obtain ⟨t8, ts, rfl, h8, hh⟩ := shs_cons hh
  obtain ⟨t9, ts, rfl, h9, hh⟩ := shs_cons hh
  obtain ⟨t10, ts, rfl, h10, hh⟩ := shs_cons hh
  obtain rfl := shs_nil hh
  obtain ⟨x0, rfl, _⟩ := sh_int h0
  obtain ⟨x1, rfl, _⟩ := sh_int h1
  obtain ⟨x2, rfl, _⟩ := sh_int h2
  obtain ⟨x3, rfl, _⟩ := sh_int h3
  obtain ⟨x4, rfl, z4, _⟩ := sh_HdS h4
  obtain ⟨x5, rfl, _⟩ := sh_int h5
  obtain ⟨x6, rfl, _⟩ := sh_int h6
  obtain ⟨x7, rfl⟩ := sh_bool h7
  obtain ⟨x8, rfl, _⟩ := sh_int h8
  obtain ⟨x9, rfl, z9, y9⟩ := sh_SfS h9
  obtain ⟨x10, rfl, z10⟩ := sh_LI h10
  exact ⟨⟨⟨x0, x1⟩, ⟨x2, x3⟩, x4, x5, x6, x7, x8, x9, x10⟩, rfl, ⟨z4, ⟨z9, y9⟩, z10⟩⟩
theorem sh_RmS {t : T} (h : ShT t (.arr shRm)) : ∃ l : List Rm, t = eL 11 Rm.cs l ∧ l.length ≤ ZM ∧ ∀ x ∈ l, z_Rm x := sh_list z_Rm (fun _ => rfl) (fun _ hts => sh_Rm hts) h
abbrev shMl : List Sh := [.int .i64, .int .i64, .int .i64, .int .i64, .int .i64, .int .i64, .arr shRm, .arr [.int .i64]]
def z_Ml (x : Ml) : Prop := okz_RmS x.rooms ∧ okz_LI x.log
theorem sh_Ml {ts : List T} (hh : ShTs ts shMl) : ∃ x : Ml, ts = x.cs ∧ z_Ml x := by
  obtain ⟨t0, ts, rfl, h0, hh⟩ := shs_cons hh
  obtain ⟨t1, ts, rfl, h1, hh⟩ := shs_cons hh
  obtain ⟨t2, ts, rfl, h2, hh⟩ := shs_cons hh
  obtain ⟨t3, ts, rfl, h3, hh⟩ := shs_cons hh
  obtain ⟨t4, ts, rfl, h4, hh⟩ := shs_cons hh
  obtain ⟨t5, ts, rfl, h5, hh⟩ := shs_cons hh
  obtain ⟨t6, ts, rfl, h6, hh⟩ := shs_cons hh
  obtain ⟨t7, ts, rfl, h7, hh⟩ := shs_cons hh
  obtain rfl := shs_nil hh
  obtain ⟨x0, rfl, _⟩ := sh_int h0
  obtain ⟨x1, rfl, _⟩ := sh_int h1
  obtain ⟨x2, rfl, _⟩ := sh_int h2
  obtain ⟨x3, rfl, _⟩ := sh_int h3
  obtain ⟨x4, rfl, _⟩ := sh_int h4
  obtain ⟨x5, rfl, _⟩ := sh_int h5
  obtain ⟨x6, rfl, z6, y6⟩ := sh_RmS h6
  obtain ⟨x7, rfl, z7⟩ := sh_LI h7
  exact ⟨⟨⟨x0, x1, x2, x3, x4, x5⟩, x6, x7⟩, rfl, ⟨⟨z6, y6⟩, z7⟩⟩
def ok_EqMl (x : Ml × Ml) : Prop := okq_RmS x.1.rooms ∧ okq_LI x.1.log
def ea_EqMl (x : Ml × Ml) : List Arg := [aR x.1.cs, aR x.2.cs]
def f_EqMl (x : Ml × Ml) : Bool := decide (x.1 = x.2)
noncomputable def e_EqMl : Ent := ent [] ok_EqMl ea_EqMl (erB 2) f_EqMl
theorem ea_EqMl_inj (x y : Ml × Ml) (h : ea_EqMl x = ea_EqMl y) : x = y := by
  obtain ⟨l1, r1⟩ := x
  obtain ⟨l2, r2⟩ := y
  simp only [ea_EqMl, List.cons.injEq, and_true, true_and] at h
  obtain ⟨e0, e1⟩ := h
  obtain rfl := Ml.cs_ext (aR_inj e0)
  obtain rfl := Ml.cs_ext (aR_inj e1)
  rfl
theorem dm_EqMl {l : Ml} {r : Ml} (h : ok_EqMl (l, r)) : dom ok_EqMl ea_EqMl [(0, true, [C.tr false (T.int IntKind.i64 l.c.chunks), C.tr false (T.int IntKind.i64 l.c.size), C.tr false (T.int IntKind.i64 l.c.slots), C.tr false (T.int IntKind.i64 l.c.tax), C.tr false (T.int IntKind.i64 l.c.slice), C.tr false (T.int IntKind.i64 l.c.gens), C.tr false (T.arr 11 l.rooms.length (atL Rm.cs l.rooms)), C.tr false (T.arr 1 l.log.length (atL rowI l.log))]), (0, true, [C.tr false (T.int IntKind.i64 r.c.chunks), C.tr false (T.int IntKind.i64 r.c.size), C.tr false (T.int IntKind.i64 r.c.slots), C.tr false (T.int IntKind.i64 r.c.tax), C.tr false (T.int IntKind.i64 r.c.slice), C.tr false (T.int IntKind.i64 r.c.gens), C.tr false (T.arr 11 r.rooms.length (atL Rm.cs r.rooms)), C.tr false (T.arr 1 r.log.length (atL rowI r.log))])] = true := dom_ea (ea := ea_EqMl) (x := (l, r)) h
theorem iv_EqMl {l : Ml} {r : Ml} (h : ok_EqMl (l, r)) : inv ok_EqMl ea_EqMl [(0, true, [C.tr false (T.int IntKind.i64 l.c.chunks), C.tr false (T.int IntKind.i64 l.c.size), C.tr false (T.int IntKind.i64 l.c.slots), C.tr false (T.int IntKind.i64 l.c.tax), C.tr false (T.int IntKind.i64 l.c.slice), C.tr false (T.int IntKind.i64 l.c.gens), C.tr false (T.arr 11 l.rooms.length (atL Rm.cs l.rooms)), C.tr false (T.arr 1 l.log.length (atL rowI l.log))]), (0, true, [C.tr false (T.int IntKind.i64 r.c.chunks), C.tr false (T.int IntKind.i64 r.c.size), C.tr false (T.int IntKind.i64 r.c.slots), C.tr false (T.int IntKind.i64 r.c.tax), C.tr false (T.int IntKind.i64 r.c.slice), C.tr false (T.int IntKind.i64 r.c.gens), C.tr false (T.arr 11 r.rooms.length (atL Rm.cs r.rooms)), C.tr false (T.arr 1 r.log.length (atL rowI r.log))])] = (l, r) := inv_ea ea_EqMl_inj (x := (l, r)) h
theorem d_EqMl (l : Ml) (r : Ml) : f_EqMl (l, r) = decide (l = r) := rfl
def i_EqMl : Nat := 26
noncomputable abbrev F_EqMl : Func := f26
def kp_EqMl : List (Nat × List Nat) := [(0, [8, 9, 12, 13]), (1, [8, 9, 12, 13, 40]), (2, [16]), (3, [8, 9, 12, 13, 64]), (4, [16]), (5, [88]), (6, [16]), (7, [16])]
theorem pre_EqMl (l : Ml) (r : Ml) (n : Nat) : body prog (tabS [(i_eqCf, e_eqCf), (i_eqRmS, e_eqRmS), (i_eqLI, e_eqLI)]) kp_EqMl n F_EqMl [aR l.cs, aR r.cs] = (
 bif l.c.1 != r.c.1 then
  some ([(false, [.tr true (T.bool false)])], [(false, []), (false, [])])
 else
 bif l.c.2 != r.c.2 then
  some ([(false, [.tr true (T.bool false)])], [(false, []), (false, [])])
 else
 bif l.c.3 != r.c.3 then
  some ([(false, [.tr true (T.bool false)])], [(false, []), (false, [])])
 else
 bif l.c.4 != r.c.4 then
  some ([(false, [.tr true (T.bool false)])], [(false, []), (false, [])])
 else
 bif l.c.5 != r.c.5 then
  some ([(false, [.tr true (T.bool false)])], [(false, []), (false, [])])
 else
 bif l.c.6 != r.c.6 then
  some ([(false, [.tr true (T.bool false)])], [(false, []), (false, [])])
 else
 gd (dom ok2_RmS ea2_RmS [(0, false, [C.tr false (eL 11 Rm.cs l.2)]), (0, false, [C.tr false (eL 11 Rm.cs r.2)])]) <|
 bif !f_eqRmS
    (inv ok2_RmS ea2_RmS [(0, false, [C.tr false (eL 11 Rm.cs l.2)]), (0, false, [C.tr false (eL 11 Rm.cs r.2)])]) then
  some ([(false, [.tr true (T.bool false)])], [(false, []), (false, [])])
 else
 gd (dom ok2_LI ea2_LI [(0, false, [C.tr false (eL 1 rowI l.3)]), (0, false, [C.tr false (eL 1 rowI r.3)])]) <|
 bif !f_eqLI (inv ok2_LI ea2_LI [(0, false, [C.tr false (eL 1 rowI l.3)]), (0, false, [C.tr false (eL 1 rowI r.3)])]) then
  some ([(false, [.tr true (T.bool false)])], [(false, []), (false, [])])
 else
 some ([(false, [.tr true (T.bool true)])], [(false, []), (false, [])])) := by kernel_rfl
theorem body_EqMl (l : Ml) (r : Ml) (n : Nat) (h : ok_EqMl (l, r)) : body prog (tabS [(i_eqCf, e_eqCf), (i_eqRmS, e_eqRmS), (i_eqLI, e_eqLI)]) kp_EqMl n F_EqMl (ea_EqMl (l, r)) = some (erB 2 (f_EqMl (l, r))) := by
  have h0 : okq_RmS l.rooms := h.1
  have h1 : okq_LI l.log := h.2
  unfold ea_EqMl f_EqMl
  try dsimp only
  rw [pre_EqMl]
  simp only [lt_d, ge0_d, Int.toNat_natCast, blt_d, ble_self, beq_self, decide_true, cond_true, Bool.and_self, Bool.and_true, Bool.true_and, gd_true, Nat.zero_add, List.getD_cons_zero, List.getD_cons_succ, isI_int, toI_int, isB_bool, toB_bool, eL_T, arr_ln, arr_fn, arr_wd, arr_is, arr_get, Ml.cs, int_ne, bool_ne, bool_eq, dm_eqRmS h0, iv_eqRmS h0, d_eqRmS, dm_eqLI h1, iv_eqLI h1, d_eqLI, chain]
  have hxy : (l.c.chunks = r.c.chunks ∧ l.c.size = r.c.size ∧ l.c.slots = r.c.slots ∧ l.c.tax = r.c.tax ∧ l.c.slice = r.c.slice ∧ l.c.gens = r.c.gens ∧ l.rooms = r.rooms ∧ l.log = r.log) ↔ l = r := by
    rcases l with ⟨⟨x0, x1, x2, x3, x4, x5⟩, x6, x7⟩
    rcases r with ⟨⟨y0, y1, y2, y3, y4, y5⟩, y6, y7⟩
    simp [and_assoc]
  simp only [hxy]
  by_cases e : l = r
  · simp only [e, decide_true, Bool.not_true, cond_false]
    rfl
  · simp only [e, decide_false, Bool.not_false, cond_true]
    rfl
theorem s_EqMl : EntOk prog i_EqMl e_EqMl := ent_ok ea_EqMl_inj fun x hx =>
  body_sound (φ := (tabS [(i_eqCf, e_eqCf), (i_eqRmS, e_eqRmS), (i_eqLI, e_eqLI)])) (tabS_cons s_eqCf (tabS_cons s_eqRmS (tabS_cons s_eqLI tabS_nil))) mixed (kp := kp_EqMl) (n := 0) func26 (c := bodyOf F_EqMl) (by kernel_rfl) (body_EqMl x.1 x.2 (0) hx) (name_ok (by kernel_rfl))
end Go.Mach.F
namespace Go.Mach.F
open Go Go.Mach Go.Proofs.Try
--=set_option maxRecDepth 100000
theorem cntL_mem {α : Type} (c : α → Nat) {x : α} : ∀ {l : List α}, x ∈ l → c x ≤ cntL c l
  | y :: l, h => by
    rcases List.mem_cons.1 h with rfl | h
    · unfold cntL; omega
    · have := cntL_mem c h
      unfold cntL
      omega
theorem okn_LI {l : List Int} (h : (n_LI l : Int) ≤ 1048576) : ok_LI l ∧ okq_LI l := by
  have := lm
  have := bm
  unfold n_LI at h
  exact ⟨by unfold ok_LI; omega, by unfold okq_LI; omega⟩
theorem okn_LB {l : List UInt8} (h : (n_LB l : Int) ≤ 1048576) : ok_LB l ∧ okq_LB l := by
  have := lm
  have := bm
  unfold n_LB at h
  exact ⟨by unfold ok_LB; omega, by unfold okq_LB; omega⟩
theorem okn_HdS {l : List Hd} (h : (n_HdS l : Int) ≤ 1048576) : ok_HdS l ∧ okq_HdS l := by
  have := lm
  have := bm
  unfold n_HdS at h
  exact ⟨⟨by omega, fun _ _ => trivial⟩, ⟨by omega, fun _ _ => trivial⟩⟩
theorem okn_SfS {l : List Sf} (h : (n_SfS l : Int) ≤ 1048576) : ok_SfS l ∧ okq_SfS l := by
  have := lm
  have := bm
  have e : n_SfS l = l.length + cntL n1_SfS l := rfl
  exact ⟨⟨by omega, fun x hx => (okn_LB (l := x.b) (by have := cntL_mem n1_SfS hx; have : n1_SfS x = n_LB x.b := rfl; omega)).1⟩, ⟨by omega, fun x hx => (okn_LB (l := x.b) (by have := cntL_mem n1_SfS hx; have : n1_SfS x = n_LB x.b := rfl; omega)).2⟩⟩
theorem okn_RmS {l : List Rm} (h : (n_RmS l : Int) ≤ 1048576) : ok_RmS l ∧ okq_RmS l := by
  have := lm
  have := bm
  have e : n_RmS l = l.length + cntL n1_RmS l := rfl
  exact ⟨⟨by omega, fun x hx => ⟨(okn_HdS (l := x.kids) (by have := cntL_mem n1_RmS hx; have : n1_RmS x = n_HdS x.kids + n_SfS x.things + n_LI x.tags := rfl; omega)).1, (okn_SfS (l := x.things) (by have := cntL_mem n1_RmS hx; have : n1_RmS x = n_HdS x.kids + n_SfS x.things + n_LI x.tags := rfl; omega)).1, (okn_LI (l := x.tags) (by have := cntL_mem n1_RmS hx; have : n1_RmS x = n_HdS x.kids + n_SfS x.things + n_LI x.tags := rfl; omega)).1⟩⟩, ⟨by omega, fun x hx => ⟨(okn_HdS (l := x.kids) (by have := cntL_mem n1_RmS hx; have : n1_RmS x = n_HdS x.kids + n_SfS x.things + n_LI x.tags := rfl; omega)).2, (okn_SfS (l := x.things) (by have := cntL_mem n1_RmS hx; have : n1_RmS x = n_HdS x.kids + n_SfS x.things + n_LI x.tags := rfl; omega)).2, (okn_LI (l := x.tags) (by have := cntL_mem n1_RmS hx; have : n1_RmS x = n_HdS x.kids + n_SfS x.things + n_LI x.tags := rfl; omega)).2⟩⟩⟩
end Go.Mach.F
namespace Go.Mach.F
open Go Go.Mach Go.Proofs.Try
--=set_option maxRecDepth 100000
def i_RoomOf1 : Nat := 153
noncomputable abbrev F_RoomOf1 : Func := f153
def kp_RoomOf1 : List (Nat × List Nat) := [(0, [4, 8, 9]), (1, [12])]
noncomputable def e_RoomOf1 : Ent := inl [0, 0] prog (tabS []) kp_RoomOf1 0 F_RoomOf1
theorem s_RoomOf1 : EntOk prog i_RoomOf1 e_RoomOf1 := inl_ok tabS_nil mixed (c := bodyOf F_RoomOf1) func153 (by kernel_rfl) (name_ok (by kernel_rfl))
def rof (l : List Rm) (h : Hd) : Int := match (List.range l.length).find? (fun i => decide (l[i]?.map Rm.h = some h)) with
  | some i => (i : Int)
  | none => -1
theorem hd_eq (x : Rm) (h : Hd) : (decide (x.h.slot = h.slot ∧ x.h.gen = h.gen)) = decide (some x.h = some h) := by
  refine decide_eq_decide.2 ?_
  rcases x with ⟨⟨_, _⟩, _⟩
  rcases h with ⟨_, _⟩
  simp
def ok_ixRm (x : List Rm × Hd) : Prop := x.1.length ≤ LM
def ea_ixRm (x : List Rm × Hd) : List Arg := [aT (eL 11 Rm.cs x.1), aF i_RoomOf1 x.2.cs]
def f_ixRm (x : List Rm × Hd) : Int := rof x.1 x.2
noncomputable def e_ixRm : Ent := ent [] ok_ixRm ea_ixRm (erI 2) f_ixRm
theorem ea_ixRm_inj (x y : List Rm × Hd) (h : ea_ixRm x = ea_ixRm y) : x = y := by
  obtain ⟨l1, h1⟩ := x
  obtain ⟨l2, h2⟩ := y
  simp only [ea_ixRm, List.cons.injEq, and_true, true_and] at h
  obtain ⟨e0, e1⟩ := h
  obtain rfl := eL_inj Rm.cs_inj (aT_inj e0)
  obtain rfl := Hd.cs_ext (aF_inj (by rfl) e1)
  rfl
theorem dm_ixRm {l : List Rm} {h : Hd} (h0 : ok_ixRm (l, h)) : dom ok_ixRm ea_ixRm [(0, false, [C.tr false (T.arr 11 l.length (atL Rm.cs l))]), (0, false, [C.fn 153 [Pt.pim 2 (pimF [T.int IntKind.i64 h.slot, T.int IntKind.i64 h.gen])]])] = true := dom_ea (ea := ea_ixRm) (x := (l, h)) h0
theorem iv_ixRm {l : List Rm} {h : Hd} (h0 : ok_ixRm (l, h)) : inv ok_ixRm ea_ixRm [(0, false, [C.tr false (T.arr 11 l.length (atL Rm.cs l))]), (0, false, [C.fn 153 [Pt.pim 2 (pimF [T.int IntKind.i64 h.slot, T.int IntKind.i64 h.gen])]])] = (l, h) := inv_ea ea_ixRm_inj (x := (l, h)) h0
theorem d_ixRm (l : List Rm) (h : Hd) : f_ixRm (l, h) = rof l h := rfl
def i_ixRm : Nat := 152
noncomputable abbrev F_ixRm : Func := f152
def kp_ixRm : List (Nat × List Nat) := [(0, [0, 4]), (1, [0, 4, 28, 32]), (2, [0, 4, 28, 32, 36]), (3, [0, 4, 20, 28, 32]), (4, [0, 4, 20, 28, 32, 64]), (5, [16]), (6, [0, 4, 28, 32]), (7, [16])]
def ts_ixRm : List Nat := [0, 0]
def st_ixRm_1 (l : List Rm) (h : Hd) (x32 : Int) : St := [(0, ⟨z0, [(false, [.tr false (eL 11 Rm.cs l)])]⟩), (4, ⟨z0, [(false, [(C.fn 153
  [Pt.pim [T.int IntKind.i64 h.1, T.int IntKind.i64 h.2].length
      (pimF [T.int IntKind.i64 h.1, T.int IntKind.i64 h.2])])])]⟩), (28, ⟨z0, [(false, [.tr true (T.int IntKind.i64 (↑l.length : Int))])]⟩), (32, ⟨z0, [(false, [.tr true (T.int IntKind.i64 x32)])]⟩)]
def ex_ixRm_1_1 (l : List Rm) (h : Hd) (x32 : Int) : St := [(16, ⟨z0, [(false, [.tr true (T.int IntKind.i64 x32)])]⟩)]
def ex_ixRm_1_2 (l : List Rm) (h : Hd) (x32 : Int) : St := [(0, ⟨z0, [(false, [.tr false (eL 11 Rm.cs l)])]⟩), (4, ⟨z0, [(false, [(C.fn 153
  [Pt.pim [T.int IntKind.i64 h.1, T.int IntKind.i64 h.2].length
      (pimF [T.int IntKind.i64 h.1, T.int IntKind.i64 h.2])])])]⟩), (28, ⟨z0, [(false, [.tr true (T.int IntKind.i64 (↑l.length : Int))])]⟩), (32, ⟨z0, [(false, [.tr true (T.int IntKind.i64 x32)])]⟩), (36, ⟨z0, []⟩)]
theorem round_ixRm_1 (l : List Rm) (h : Hd) (x32 : Int) (n : Nat) (K : Ex → St → Res) : roundAt prog (tabS [(i_RoomOf1, e_RoomOf1)]) kp_ixRm F_ixRm [1, 0, 1, 0] n (st_ixRm_1 l h x32) K = (
 bif decide (x32 < (↑l.length : Int)) then
  gd (decide (0 ≤ x32) && (x32.toNat.blt l.length && true)) <|
  gd (T.isI IntKind.i64 (atL Rm.cs l x32.toNat 0) && T.isI IntKind.i64 (atL Rm.cs l x32.toNat 1) &&
                  T.isI IntKind.i64 (atL Rm.cs l x32.toNat 2) &&
                T.isI IntKind.i64 (atL Rm.cs l x32.toNat 3) &&
              ((atL Rm.cs l x32.toNat 4).isArr && (atL Rm.cs l x32.toNat 4).wd.beq 2) &&
            T.isI IntKind.i64 (atL Rm.cs l x32.toNat 5) &&
          T.isI IntKind.i64 (atL Rm.cs l x32.toNat 6) &&
        (atL Rm.cs l x32.toNat 7).isB &&
      T.isI IntKind.i64 (atL Rm.cs l x32.toNat 8) &&
    ((atL Rm.cs l x32.toNat 9).isArr && (atL Rm.cs l x32.toNat 9).wd.beq 1) &&
  ((atL Rm.cs l x32.toNat 10).isArr && (atL Rm.cs l x32.toNat 10).wd.beq 1)) <|
  bif bif (atL Rm.cs l x32.toNat 0).toI == (T.int IntKind.i64 h.1).toI then
  bif (atL Rm.cs l x32.toNat 1).toI == (T.int IntKind.i64 h.2).toI then true else false
else false then
   K .ret (ex_ixRm_1_1 l h x32)
  else
  K .normal (st_ixRm_1 l h (IntKind.i64.wrap (x32 + 1)))
 else
 K (.exit 0) (ex_ixRm_1_2 l h x32)) := by kernel_rfl
theorem post_ixRm_1_1 (l : List Rm) (h : Hd) (x32 : Int) (n : Nat) : contAt prog (tabS [(i_RoomOf1, e_RoomOf1)]) kp_ixRm F_ixRm ts_ixRm [1, 0, 1, 0] [] n .ret (ex_ixRm_1_1 l h x32) = (
 some ([(false, [.tr true (T.int IntKind.i64 x32)])], [(false, []), (false, [])])) := by kernel_rfl
theorem post_ixRm_1_2 (l : List Rm) (h : Hd) (x32 : Int) (n : Nat) : contAt prog (tabS [(i_RoomOf1, e_RoomOf1)]) kp_ixRm F_ixRm ts_ixRm [1, 0, 1, 0] [] n (.exit 0) (ex_ixRm_1_2 l h x32) = (
 some ([(false, [.tr true (T.int IntKind.i64 (-1))])], [(false, []), (false, [])])) := by kernel_rfl
theorem pre_ixRm (l : List Rm) (h : Hd) (n : Nat) : body prog (tabS [(i_RoomOf1, e_RoomOf1)]) kp_ixRm n F_ixRm [aT (eL 11 Rm.cs l), aF i_RoomOf1 h.cs] = (
 loopAt prog (tabS [(i_RoomOf1, e_RoomOf1)]) kp_ixRm F_ixRm [1, 0, 1, 0] n n (st_ixRm_1 l h (0)) (contAt prog (tabS [(i_RoomOf1, e_RoomOf1)]) kp_ixRm F_ixRm ts_ixRm [1, 0, 1, 0] [] n)) := by kernel_rfl
theorem body_ixRm (l : List Rm) (h : Hd) (h0 : ok_ixRm (l, h)) : body prog (tabS [(i_RoomOf1, e_RoomOf1)]) kp_ixRm (l.length + 1) F_ixRm (ea_ixRm (l, h)) = some (erI 2 (f_ixRm (l, h))) := by
  have hlm := lm
  have hl : l.length ≤ LM := h0
  unfold ea_ixRm f_ixRm
  try dsimp only
  rw [pre_ixRm]
  have hst : st_ixRm_1 l h 0 = (fun i : Nat => st_ixRm_1 l h (i : Nat)) 0 := rfl
  rw [hst, forExit l.length (fun i : Nat => st_ixRm_1 l h (i : Nat)) (ex_ixRm_1_2 l h l.length) 0 (fun i => decide (l[i]?.map Rm.h = some h)) .ret (fun e => by cases e) (fun i : Nat => ex_ixRm_1_1 l h (i : Nat)) (fun i K hi => ?_) (fun K => ?_) _ (Nat.le_refl _)]
  · unfold rof
    cases (List.range l.length).find? (fun i => decide (l[i]?.map Rm.h = some h)) with
    | none => exact (post_ixRm_1_2 l h _ _).trans rfl
    | some i => exact (post_ixRm_1_1 l h _ _).trans rfl
  · have hx := List.getElem?_eq_getElem hi
    rw [round_ixRm_1]
    simp (disch := omega) only [lt_d, ge0_d, Int.toNat_natCast, blt_d, ble_self, beq_self, decide_true, cond_true, Bool.and_self, Bool.and_true, Bool.true_and, gd_true, Nat.zero_add, List.getD_cons_zero, List.getD_cons_succ, isI_int, toI_int, isB_bool, toB_bool, eL_T, arr_ln, arr_fn, arr_wd, arr_is, arr_get, hi, atL_of hx, hx, Option.map_some, Rm.cs, wrapS, int_eq, cond_tf, cond_bf, Bool.and_true, dec_and, hd_eq]
  · rw [round_ixRm_1]
    simp only [lt_d, Nat.lt_irrefl, decide_false, cond_false]
theorem s_ixRm : EntOk prog i_ixRm e_ixRm := ent_ok ea_ixRm_inj fun x hx =>
  body_sound (φ := (tabS [(i_RoomOf1, e_RoomOf1)])) (tabS_cons s_RoomOf1 tabS_nil) mixed (kp := kp_ixRm) (n := x.1.length + 1) func152 (c := bodyOf F_ixRm) (by kernel_rfl) (body_ixRm x.1 x.2 hx) (name_ok (by kernel_rfl))
def ok_sRoomOf (x : Ml × Hd) : Prop := x.1.rooms.length ≤ LM
def ea_sRoomOf (x : Ml × Hd) : List Arg := [aR x.1.cs, aR x.2.cs]
def f_sRoomOf (x : Ml × Hd) : Int := rof x.1.rooms x.2
noncomputable def e_sRoomOf : Ent := ent [] ok_sRoomOf ea_sRoomOf (erI 2) f_sRoomOf
theorem ea_sRoomOf_inj (x y : Ml × Hd) (h : ea_sRoomOf x = ea_sRoomOf y) : x = y := by
  obtain ⟨m1, h1⟩ := x
  obtain ⟨m2, h2⟩ := y
  simp only [ea_sRoomOf, List.cons.injEq, and_true, true_and] at h
  obtain ⟨e0, e1⟩ := h
  obtain rfl := Ml.cs_ext (aR_inj e0)
  obtain rfl := Hd.cs_ext (aR_inj e1)
  rfl
theorem dm_sRoomOf {m : Ml} {h : Hd} (h0 : ok_sRoomOf (m, h)) : dom ok_sRoomOf ea_sRoomOf [(0, true, [C.tr false (T.int IntKind.i64 m.c.chunks), C.tr false (T.int IntKind.i64 m.c.size), C.tr false (T.int IntKind.i64 m.c.slots), C.tr false (T.int IntKind.i64 m.c.tax), C.tr false (T.int IntKind.i64 m.c.slice), C.tr false (T.int IntKind.i64 m.c.gens), C.tr false (T.arr 11 m.rooms.length (atL Rm.cs m.rooms)), C.tr false (T.arr 1 m.log.length (atL rowI m.log))]), (0, true, [C.tr false (T.int IntKind.i64 h.slot), C.tr false (T.int IntKind.i64 h.gen)])] = true := dom_ea (ea := ea_sRoomOf) (x := (m, h)) h0
theorem iv_sRoomOf {m : Ml} {h : Hd} (h0 : ok_sRoomOf (m, h)) : inv ok_sRoomOf ea_sRoomOf [(0, true, [C.tr false (T.int IntKind.i64 m.c.chunks), C.tr false (T.int IntKind.i64 m.c.size), C.tr false (T.int IntKind.i64 m.c.slots), C.tr false (T.int IntKind.i64 m.c.tax), C.tr false (T.int IntKind.i64 m.c.slice), C.tr false (T.int IntKind.i64 m.c.gens), C.tr false (T.arr 11 m.rooms.length (atL Rm.cs m.rooms)), C.tr false (T.arr 1 m.log.length (atL rowI m.log))]), (0, true, [C.tr false (T.int IntKind.i64 h.slot), C.tr false (T.int IntKind.i64 h.gen)])] = (m, h) := inv_ea ea_sRoomOf_inj (x := (m, h)) h0
theorem d_sRoomOf (m : Ml) (h : Hd) : f_sRoomOf (m, h) = rof m.rooms h := rfl
def i_sRoomOf : Nat := 85
noncomputable abbrev F_sRoomOf : Func := f85
def kp_sRoomOf : List (Nat × List Nat) := [(0, [8, 9, 12, 13]), (1, [8, 9, 12, 13, 20]), (2, [8, 9, 12, 13, 20, 40]), (3, [8, 9, 12, 13, 20]), (4, [8, 9, 12, 13, 20, 80]), (5, [16]), (6, [16])]
def ts_sRoomOf : List Nat := [0, 0]
def st_sRoomOf_1 (m : Ml) (h : Hd) (x20 : Int) : St := [(8, ⟨z0, [(false, [(C.pt (Pt.ptr 9 0 [] 8 0 0))])]⟩), (9, ⟨z0, [(true, [.tr true (T.int IntKind.i64 m.c.1), .tr true (T.int IntKind.i64 m.c.2), .tr true (T.int IntKind.i64 m.c.3), .tr true (T.int IntKind.i64 m.c.4), .tr true (T.int IntKind.i64 m.c.5), .tr true (T.int IntKind.i64 m.c.6), .tr false (eL 11 Rm.cs m.2), .tr false (eL 1 rowI m.3)])]⟩), (12, ⟨z0, [(false, [(C.pt (Pt.ptr 13 0 [] 2 0 0))])]⟩), (13, ⟨z0, [(true, [.tr true (T.int IntKind.i64 h.1), .tr true (T.int IntKind.i64 h.2)])]⟩), (20, ⟨z0, [(false, [.tr true (T.int IntKind.i64 x20)])]⟩)]
def ex_sRoomOf_1_1 (m : Ml) (h : Hd) (x20 : Int) : St := [(16, ⟨z0, [(false, [.tr true (T.int IntKind.i64 x20)])]⟩)]
def ex_sRoomOf_1_2 (m : Ml) (h : Hd) (x20 : Int) : St := [(8, ⟨z0, [(false, [(C.pt (Pt.ptr 9 0 [] 8 0 0))])]⟩), (9, ⟨z0, [(true, [.tr true (T.int IntKind.i64 m.c.1), .tr true (T.int IntKind.i64 m.c.2), .tr true (T.int IntKind.i64 m.c.3), .tr true (T.int IntKind.i64 m.c.4), .tr true (T.int IntKind.i64 m.c.5), .tr true (T.int IntKind.i64 m.c.6), .tr false (eL 11 Rm.cs m.2), .tr false (eL 1 rowI m.3)])]⟩), (12, ⟨z0, [(false, [(C.pt (Pt.ptr 13 0 [] 2 0 0))])]⟩), (13, ⟨z0, [(true, [.tr true (T.int IntKind.i64 h.1), .tr true (T.int IntKind.i64 h.2)])]⟩), (20, ⟨z0, [(false, [.tr true (T.int IntKind.i64 x20)])]⟩), (40, ⟨z0, []⟩)]
theorem round_sRoomOf_1 (m : Ml) (h : Hd) (x20 : Int) (n : Nat) (K : Ex → St → Res) : roundAt prog (tabS []) kp_sRoomOf F_sRoomOf [1, 0, 1, 0] n (st_sRoomOf_1 m h x20) K = (
 bif decide (x20 < (↑m.2.length : Int)) then
  gd (decide (0 ≤ x20) && (x20.toNat.blt m.2.length && true)) <|
  gd (T.isI IntKind.i64 (atL Rm.cs m.2 x20.toNat 0) && T.isI IntKind.i64 (atL Rm.cs m.2 x20.toNat 1)) <|
  bif bif (atL Rm.cs m.2 x20.toNat 0).toI == h.1 then bif (atL Rm.cs m.2 x20.toNat 1).toI == h.2 then true else false
else false then
   K .ret (ex_sRoomOf_1_1 m h x20)
  else
  K .normal (st_sRoomOf_1 m h (IntKind.i64.wrap (x20 + 1)))
 else
 K (.exit 0) (ex_sRoomOf_1_2 m h x20)) := by kernel_rfl
theorem post_sRoomOf_1_1 (m : Ml) (h : Hd) (x20 : Int) (n : Nat) : contAt prog (tabS []) kp_sRoomOf F_sRoomOf ts_sRoomOf [1, 0, 1, 0] [] n .ret (ex_sRoomOf_1_1 m h x20) = (
 some ([(false, [.tr true (T.int IntKind.i64 x20)])], [(false, []), (false, [])])) := by kernel_rfl
theorem post_sRoomOf_1_2 (m : Ml) (h : Hd) (x20 : Int) (n : Nat) : contAt prog (tabS []) kp_sRoomOf F_sRoomOf ts_sRoomOf [1, 0, 1, 0] [] n (.exit 0) (ex_sRoomOf_1_2 m h x20) = (
 some ([(false, [.tr true (T.int IntKind.i64 (-1))])], [(false, []), (false, [])])) := by kernel_rfl
theorem pre_sRoomOf (m : Ml) (h : Hd) (n : Nat) : body prog (tabS []) kp_sRoomOf n F_sRoomOf [aR m.cs, aR h.cs] = (
 loopAt prog (tabS []) kp_sRoomOf F_sRoomOf [1, 0, 1, 0] n n (st_sRoomOf_1 m h (0)) (contAt prog (tabS []) kp_sRoomOf F_sRoomOf ts_sRoomOf [1, 0, 1, 0] [] n)) := by kernel_rfl
theorem body_sRoomOf (m : Ml) (h : Hd) (h0 : ok_sRoomOf (m, h)) : body prog (tabS []) kp_sRoomOf (m.rooms.length + 1) F_sRoomOf (ea_sRoomOf (m, h)) = some (erI 2 (f_sRoomOf (m, h))) := by
  have hlm := lm
  have hl : m.rooms.length ≤ LM := h0
  unfold ea_sRoomOf f_sRoomOf
  try dsimp only
  rw [pre_sRoomOf]
  have hst : st_sRoomOf_1 m h 0 = (fun i : Nat => st_sRoomOf_1 m h (i : Nat)) 0 := rfl
  rw [hst, forExit m.rooms.length (fun i : Nat => st_sRoomOf_1 m h (i : Nat)) (ex_sRoomOf_1_2 m h m.rooms.length) 0 (fun i => decide (m.rooms[i]?.map Rm.h = some h)) .ret (fun e => by cases e) (fun i : Nat => ex_sRoomOf_1_1 m h (i : Nat)) (fun i K hi => ?_) (fun K => ?_) _ (Nat.le_refl _)]
  · unfold rof
    cases (List.range m.rooms.length).find? (fun i => decide (m.rooms[i]?.map Rm.h = some h)) with
    | none => exact (post_sRoomOf_1_2 m h _ _).trans rfl
    | some i => exact (post_sRoomOf_1_1 m h _ _).trans rfl
  · have hx := List.getElem?_eq_getElem hi
    rw [round_sRoomOf_1]
    simp (disch := omega) only [lt_d, ge0_d, Int.toNat_natCast, blt_d, ble_self, beq_self, decide_true, cond_true, Bool.and_self, Bool.and_true, Bool.true_and, gd_true, Nat.zero_add, List.getD_cons_zero, List.getD_cons_succ, isI_int, toI_int, isB_bool, toB_bool, eL_T, arr_ln, arr_fn, arr_wd, arr_is, arr_get, hi, atL_of hx, hx, Option.map_some, Rm.cs, wrapS, int_eq, cond_tf, cond_bf, Bool.and_true, dec_and, hd_eq]
  · rw [round_sRoomOf_1]
    simp only [lt_d, Nat.lt_irrefl, decide_false, cond_false]
theorem s_sRoomOf : EntOk prog i_sRoomOf e_sRoomOf := ent_ok ea_sRoomOf_inj fun x hx =>
  body_sound (φ := (tabS [])) tabS_nil mixed (kp := kp_sRoomOf) (n := x.1.rooms.length + 1) func85 (c := bodyOf F_sRoomOf) (by kernel_rfl) (body_sRoomOf x.1 x.2 hx) (name_ok (by kernel_rfl))
def ok_iRoomOf (x : Ml × Hd) : Prop := x.1.rooms.length ≤ LM
def ea_iRoomOf (x : Ml × Hd) : List Arg := [aR x.1.cs, aR x.2.cs]
def f_iRoomOf (x : Ml × Hd) : Int := rof x.1.rooms x.2
noncomputable def e_iRoomOf : Ent := ent [] ok_iRoomOf ea_iRoomOf (erI 2) f_iRoomOf
theorem ea_iRoomOf_inj (x y : Ml × Hd) (h : ea_iRoomOf x = ea_iRoomOf y) : x = y := by
  obtain ⟨m1, h1⟩ := x
  obtain ⟨m2, h2⟩ := y
  simp only [ea_iRoomOf, List.cons.injEq, and_true, true_and] at h
  obtain ⟨e0, e1⟩ := h
  obtain rfl := Ml.cs_ext (aR_inj e0)
  obtain rfl := Hd.cs_ext (aR_inj e1)
  rfl
theorem dm_iRoomOf {m : Ml} {h : Hd} (h0 : ok_iRoomOf (m, h)) : dom ok_iRoomOf ea_iRoomOf [(0, true, [C.tr false (T.int IntKind.i64 m.c.chunks), C.tr false (T.int IntKind.i64 m.c.size), C.tr false (T.int IntKind.i64 m.c.slots), C.tr false (T.int IntKind.i64 m.c.tax), C.tr false (T.int IntKind.i64 m.c.slice), C.tr false (T.int IntKind.i64 m.c.gens), C.tr false (T.arr 11 m.rooms.length (atL Rm.cs m.rooms)), C.tr false (T.arr 1 m.log.length (atL rowI m.log))]), (0, true, [C.tr false (T.int IntKind.i64 h.slot), C.tr false (T.int IntKind.i64 h.gen)])] = true := dom_ea (ea := ea_iRoomOf) (x := (m, h)) h0
theorem iv_iRoomOf {m : Ml} {h : Hd} (h0 : ok_iRoomOf (m, h)) : inv ok_iRoomOf ea_iRoomOf [(0, true, [C.tr false (T.int IntKind.i64 m.c.chunks), C.tr false (T.int IntKind.i64 m.c.size), C.tr false (T.int IntKind.i64 m.c.slots), C.tr false (T.int IntKind.i64 m.c.tax), C.tr false (T.int IntKind.i64 m.c.slice), C.tr false (T.int IntKind.i64 m.c.gens), C.tr false (T.arr 11 m.rooms.length (atL Rm.cs m.rooms)), C.tr false (T.arr 1 m.log.length (atL rowI m.log))]), (0, true, [C.tr false (T.int IntKind.i64 h.slot), C.tr false (T.int IntKind.i64 h.gen)])] = (m, h) := inv_ea ea_iRoomOf_inj (x := (m, h)) h0
theorem d_iRoomOf (m : Ml) (h : Hd) : f_iRoomOf (m, h) = rof m.rooms h := rfl
def i_iRoomOf : Nat := 87
noncomputable abbrev F_iRoomOf : Func := f87
def kp_iRoomOf : List (Nat × List Nat) := [(0, [8, 9, 12, 13]), (1, [16])]
theorem pre_iRoomOf (m : Ml) (h : Hd) (n : Nat) : body prog (tabS [(i_ixRm, e_ixRm)]) kp_iRoomOf n F_iRoomOf [aR m.cs, aR h.cs] = (
 gd (dom ok_ixRm ea_ixRm
  [(0, false, [C.tr false (eL 11 Rm.cs m.2)]),
    (0, false, [C.fn 153 [Pt.pim 2 (pimF [T.int IntKind.i64 h.1, T.int IntKind.i64 h.2])]])]) <|
 some ([(false, [.tr true (T.int IntKind.i64
  (f_ixRm
    (inv ok_ixRm ea_ixRm
      [(0, false, [C.tr false (eL 11 Rm.cs m.2)]),
        (0, false, [C.fn 153 [Pt.pim 2 (pimF [T.int IntKind.i64 h.1, T.int IntKind.i64 h.2])]])])))])], [(false, []), (false, [])])) := by kernel_rfl
theorem body_iRoomOf (m : Ml) (h : Hd) (n : Nat) (h0 : ok_iRoomOf (m, h)) : body prog (tabS [(i_ixRm, e_ixRm)]) kp_iRoomOf n F_iRoomOf (ea_iRoomOf (m, h)) = some (erI 2 (f_iRoomOf (m, h))) := by
  have c : ok_ixRm (m.rooms, h) := h0
  unfold ea_iRoomOf f_iRoomOf
  try dsimp only
  rw [pre_iRoomOf]
  simp only [eL_T, dm_ixRm c, iv_ixRm c, d_ixRm, gd_true]
  rfl
theorem s_iRoomOf : EntOk prog i_iRoomOf e_iRoomOf := ent_ok ea_iRoomOf_inj fun x hx =>
  body_sound (φ := (tabS [(i_ixRm, e_ixRm)])) (tabS_cons s_ixRm tabS_nil) mixed (kp := kp_iRoomOf) (n := 0) func87 (c := bodyOf F_iRoomOf) (by kernel_rfl) (body_iRoomOf x.1 x.2 (0) hx) (name_ok (by kernel_rfl))
end Go.Mach.F
namespace Go.Mach
open Go
section
variable {P : Program} {φ : Sems}
theorem S.free {E σ a w} (h : S E σ a w) (t : Nat) (x : Value) (hr : (σ.get (slot t)).rows = []) : S E σ (a.put (some t) x) w := by
  obtain ⟨G, hG, hp⟩ := h
  refine ⟨G, ⟨hG.nd, hG.inj, hG.rng, hG.os, hG.tape, hG.output, hG.size, hG.kept, fun t' => ?_, hG.boxes, hG.exts, hG.xbox, hG.defers, ?_, hG.here⟩, hp⟩
  · by_cases e : t' = t
    · subst e
      rw [hr]
      trivial
    · have := hG.slots t'
      have e2 : (a.put (some t) x).tmps.getD t' undef = a.tmps.getD t' undef := by
        simp only [Act.put, Array.getD_eq_getD_getElem?]
        rw [Array.getElem?_setIfInBounds_ne (fun h => e h.symm)]
      rw [e2]
      exact this
  · have := hG.tm
    simpa [Act.put] using this
/-- What a function's code computes if it ends in a return. -/
def bodyR (P : Program) (φ : Sems) (kp : List (Nat × List Nat)) (n : Nat) (fn : Func) (X : Code) (args : List Arg) : Res :=
  exec P φ (kpOf kp) fn.ntmps none n X (initA fn.ntmps 0 args) fun e σ => match e with
    | .ret => resultsK P φ none fn (args.map (·.1)) σ fun rows outs => some (rows, outs)
    | _ => none
theorem ret_sound (hφ : SemsOk P φ) (hm : P.follows .mixedOrders = true) {kp : List (Nat × List Nat)} {n : Nat} {fn : Func} {X : Code} {args : List Arg} {rs outs : List Row} (h : bodyR P φ kp n fn X args = some (rs, outs))
    {w : World} {vals : Array Value} {γ : Nat → Gh} (hargs : ArgsX w args vals γ) {a : Act} (hS : S ⟨w, Dof γ, fn.ntmps, fun i => vals.getD i undef, fun t => initG fn.ntmps args γ (box t) []⟩ (initA fn.ntmps 0 args) a w) :
    X.wp P (fun e a w' => e = .ret ∧ bodyPost P fn (fun e w' => ∃ v δ, e = .returned v ∧ GrewD w w' (Dof γ) ∧ ResX w w' γ args vals rs outs v δ) .ret a w') a w := by
  unfold bodyR at h
  have h' := cast (exec_nat (P := P) (φ := φ) (fun o : Option (List Row × List Row) => o = some (rs, outs)) (z := none) (z' := False) (by simp) (kpOf kp) fn.ntmps n X (initA fn.ntmps 0 args) fun e σ => match e with
    | .ret => resultsK P φ none fn (args.map (·.1)) σ fun rows outs => some (rows, outs)
    | _ => none) h
  have hxb : ∀ i x, args[i]? = some x → x.1 = 2 → (fun t => initG fn.ntmps args γ (box t) []) (fn.ntmps + i) = γ i [] := fun i x hi ht => by
    simp only
    rw [initG_box, tagOf_eq hi, if_pos ht]
  refine cond_sound hm (E := ⟨w, Dof γ, fn.ntmps, fun i => vals.getD i undef, fun t => initG fn.ntmps args γ (box t) []⟩) hφ X _ _ _ _ _ h' hS fun e σ' a' w' hK hS => ?_
  cases e with
  | exit i => cases hK
  | normal => cases hK
  | ret => exact ⟨rfl, post_sound hargs hxb hS hK⟩
theorem clone_sound (hφ : SemsOk P φ) (hm : P.follows .mixedOrders = true) {kp : List (Nat × List Nat)} {n : Nat} {f : FuncId} {fn : Func} (hf : P.funcs[f]? = some fn) (hN : fn.name ≠ "runtime.NumGoroutine") {o0 o1 o2 : Oper} {A B : Code}
    (hc : fn.body = some (.seq (.region 0 #[o0] false) (.seq (.seq (.region 1 #[o1, o2] false) (.cond (.tmp 4) A .skip)) B)))
    (g0 : o0.guard = none) (g1 : o1.guard = none) (g2 : o2.guard = none)
    (h0 : ∀ a w K Q, K (a.put (some 2) (.slice none 0 0)) w → o0.wp P a w K Q)
    (h1 : ∀ a w K Q, K (a.put (some 3) (a.eval (.tmp 0))) w → o1.wp P a w K Q)
    (h2 : ∀ a w K Q Ad k c, a.eval (.tmp 3) = .slice Ad k c → K (a.put (some 4) (.bool Ad.isNone)) w → o2.wp P a w K Q)
    (hnt : 5 ≤ fn.ntmps) {m k : Nat} {ft : Nat → Nat → T} {rs outs : List Row}
    (hA : k = 0 → bodyR P φ kp n fn A [F.aT (.arr m k ft)] = some (rs, outs))
    (hB : bodyR P φ kp n fn B [F.aT (.arr m k ft)] = some (rs, outs)) : Sound P f [F.aT (.arr m k ft)] rs outs := by
  refine ⟨⟨fn, hf, by rw [hc]; rfl, hN⟩, fun w vals γ hargs => ?_⟩
  have hS := S.init (nt := fn.ntmps) hargs (by simp only [List.length_cons, List.length_nil]; omega)
  obtain ⟨v, hv, hok⟩ := hargs.arg 0 _ rfl
  have hr : RelIm w (calleeEnv w (Dof γ)).N (.arr m k ft) v := by
    unfold ArgOk at hok
    rw [if_neg (by simp [F.aT]), if_neg (by simp [F.aT])] at hok
    exact hok (fun _ => noG) fun _ => z0
  obtain ⟨Ad, cap, rfl, hcap, hpos⟩ := hr
  refine calls_of_wp hf hc ?_
  have hsz := hargs.size
  simp only [List.length_cons, List.length_nil] at hsz
  generalize ha : (⟨vals ++ Array.replicate (fn.ntmps - vals.size) undef, []⟩ : Act) = a at hS ⊢
  have hat : a.tmps.size = fn.ntmps := by rw [← ha]; simp; omega
  have ha0 : a.eval (.tmp 0) = .slice Ad k cap := by
    rw [← ha]
    simp only [Act.eval, Array.getD_eq_getD_getElem?]
    rw [Array.getElem?_append_left (by omega), hv]
    rfl
  have want : ∀ (o : Oper) t, o.guard = none → Region.wanted o t = true := fun o t h => by simp [Region.wanted, h]
  refine wp_seq (wp_region ?_)
  show wpOps P #[o0] _ [0] a w
  simp only [wpOps, List.getElem?_toArray, List.getElem?_cons_zero, want _ _ g0, if_true]
  refine .inl (h0 _ _ _ _ ?_)
  refine wp_seq (wp_seq (wp_region ?_))
  show wpOps P #[o1, o2] _ [0, 1] _ w
  simp only [wpOps, List.getElem?_toArray, List.getElem?_cons_zero, List.getElem?_cons_succ, want _ _ g1, want _ _ g2, if_true]
  refine .inl (h1 _ _ _ _ (.inl (h2 _ _ _ _ Ad k cap ?_ ?_)))
  · have e1 : (a.put (some 2) (.slice none 0 0)).eval (.tmp 0) = .slice Ad k cap := by
      rw [← ha0]
      simp [Act.put, Act.eval, Array.getD_eq_getD_getElem?]
    rw [e1]
    have h3 : 3 < a.tmps.size := by omega
    simp [Act.put, Act.eval, Array.getD_eq_getD_getElem?, Array.getElem?_setIfInBounds, h3]
  · generalize hx : (a.put (some 2) (Value.slice none 0 0)).eval (.tmp 0) = x
    have hS2 : S ⟨w, Dof γ, fn.ntmps, fun i => vals.getD i undef, fun t => initG fn.ntmps [F.aT (.arr m k ft)] γ (box t) []⟩ (initA fn.ntmps 0 [F.aT (.arr m k ft)]) ((((a.put (some 2) (.slice none 0 0))).put (some 3) x).put (some 4) (.bool Ad.isNone)) w :=
      ((hS.free 2 _ rfl).free 3 _ rfl).free 4 _ rfl
    have e4 : ((((a.put (some 2) (Value.slice none 0 0))).put (some 3) x).put (some 4) (.bool Ad.isNone)).eval (.tmp 4) = .bool Ad.isNone := by
      have h4 : 4 < a.tmps.size := by omega
      simp [Act.put, Act.eval, Array.getD_eq_getD_getElem?, Array.getElem?_setIfInBounds, h4]
    refine wp_cond e4 ?_
    cases Ad with
    | none =>
      have hk : k = 0 := by
        rcases Nat.eq_zero_or_pos k with h | h
        · exact h
        · obtain ⟨b, off, he, _⟩ := hpos h
          cases he
      refine wp_mono (ret_sound hφ hm (hA hk) hargs hS2) fun e a' w' hq => ?_
      obtain ⟨rfl, hq⟩ := hq
      exact hq
    | some ad =>
      refine wp_skip ?_
      refine wp_mono (ret_sound hφ hm hB hargs hS2) fun e a' w' hq => ?_
      obtain ⟨rfl, hq⟩ := hq
      exact hq
end
end Go.Mach
namespace Go.Mach.F
open Go Go.Mach Go.Proofs.Try
--=set_option maxRecDepth 100000
theorem plain_I (l : List Int) : plainF (atL rowI l) = atL rowI l := by
  funext j k
  unfold plainF atL
  cases l[j]? with
  | none => rfl
  | some x => cases k <;> rfl
theorem plain_B (l : List UInt8) : plainF (atL rowB l) = atL rowB l := by
  funext j k
  unfold plainF atL
  cases l[j]? with
  | none => rfl
  | some x => cases k <;> rfl
theorem plain_Hd (l : List Hd) : plainF (atL Hd.cs l) = atL Hd.cs l := by
  funext j k
  unfold plainF atL
  cases l[j]? with
  | none => rfl
  | some x => rcases k with _ | _ | k <;> rfl
theorem app0 (f g : Nat → Nat → T) : appF 0 f g = g := by
  funext j k
  unfold appF
  rfl
def i_clB : Nat := 148
def ok_clB (l : List UInt8) : Prop := l.length ≤ LM
def ea_clB (l : List UInt8) : List Arg := [aT (eB l)]
def f_clB (l : List UInt8) : List UInt8 := l
noncomputable def e_clB : Ent := ent [] ok_clB ea_clB (fun l => erT 1 (eB l)) f_clB
theorem ea_clB_inj (x y : List UInt8) (h : ea_clB x = ea_clB y) : x = y := by
  simp only [ea_clB, aT, List.cons.injEq, Prod.mk.injEq, true_and, and_true, C.tr.injEq] at h
  exact eB_inj h
theorem dm_clB {l : List UInt8} (h : ok_clB l) : dom ok_clB ea_clB [(0, false, [C.tr false (T.arr 1 l.length (atL rowB l))])] = true := dom_ea (ea := ea_clB) (x := l) h
theorem iv_clB {l : List UInt8} (h : ok_clB l) : inv ok_clB ea_clB [(0, false, [C.tr false (T.arr 1 l.length (atL rowB l))])] = l := inv_ea ea_clB_inj (x := l) h
theorem d_clB (l : List UInt8) : f_clB l = l := rfl
theorem br_clB (l : List UInt8) : bodyR prog (tabS []) [(0, [0]), (1, [0, 16]), (2, [8]), (3, [8])] 0 f148 (sub (bodyOf f148) [1, 1]) [aT (eB l)] = (
 gd (((0 + l.length) * 1).ble 70368744177664 && (0 + l.length).ble 70368744177664) <|
 gd ((0 + l.length).ble (0 + l.length) && true) <|
 gd ((0 + l.length).ble (0 + l.length) && true) <|
 some ([(false, [.tr true (.arr (1) (0 + l.length) (appF 0 (fun j k => T.hole) (plainF (atL rowB l))))])], [(false, [])])) := by kernel_rfl
theorem s_clB : EntOk prog i_clB e_clB := ent_ok ea_clB_inj fun l hl => by
  have hlm := lm
  have hl' : l.length ≤ LM := hl
  have hb := br_clB l
  simp only [Nat.zero_add, ble_d, Nat.le_refl, decide_true, Bool.and_true, gd_true, app0, plain_B] at hb
  rw [decide_eq_true (show l.length * 1 ≤ 70368744177664 by omega), decide_eq_true (show l.length ≤ 70368744177664 by omega)] at hb
  simp only [Bool.and_true, gd_true] at hb
  refine clone_sound (φ := tabS []) tabS_nil mixed (kp := [(0, [0]), (1, [0, 16]), (2, [8]), (3, [8])]) (n := 0) func148 (name_ok (by kernel_rfl)) (hc := rfl) rfl rfl rfl (fun a w K Q h => wp_value rfl h) (fun a w K Q h => wp_value rfl h) (fun a w K Q Ad k c he h => ?_) (by decide) (fun hk => ?_) hb
  · cases Ad with
    | none => exact wp_value (v := .bool true) (w' := w) (by simp only [execOp, he]; kernel_rfl) h
    | some ad => exact wp_value (v := .bool false) (w' := w) (by simp only [execOp, he]; kernel_rfl) h
  · have : l = [] := List.length_eq_zero_iff.1 hk
    subst this
    have ha : bodyR prog (tabS []) [(0, [0]), (1, [0, 16]), (2, [8]), (3, [8])] 0 f148 (sub (bodyOf f148) [1, 0, 1, 0]) [aT (eB [])] = some ([(false, [.tr true (.arr 1 0 fun _ _ => .hole)])], [(false, [])]) := by kernel_rfl
    exact ha
def i_clH : Nat := 154
def ok_clH (l : List Hd) : Prop := l.length ≤ LM
def ea_clH (l : List Hd) : List Arg := [aT (eL 2 Hd.cs l)]
def f_clH (l : List Hd) : List Hd := l
noncomputable def e_clH : Ent := ent [] ok_clH ea_clH (fun l => erT 1 (eL 2 Hd.cs l)) f_clH
theorem ea_clH_inj (x y : List Hd) (h : ea_clH x = ea_clH y) : x = y := by
  simp only [ea_clH, aT, List.cons.injEq, Prod.mk.injEq, true_and, and_true, C.tr.injEq] at h
  exact eL_inj Hd.cs_inj h
theorem dm_clH {l : List Hd} (h : ok_clH l) : dom ok_clH ea_clH [(0, false, [C.tr false (T.arr 2 l.length (atL Hd.cs l))])] = true := dom_ea (ea := ea_clH) (x := l) h
theorem iv_clH {l : List Hd} (h : ok_clH l) : inv ok_clH ea_clH [(0, false, [C.tr false (T.arr 2 l.length (atL Hd.cs l))])] = l := inv_ea ea_clH_inj (x := l) h
theorem d_clH (l : List Hd) : f_clH l = l := rfl
theorem br_clH (l : List Hd) : bodyR prog (tabS []) [(0, [0]), (1, [0, 16]), (2, [8]), (3, [8])] 0 f154 (sub (bodyOf f154) [1, 1]) [aT (eL 2 Hd.cs l)] = (
 gd (((0 + l.length) * 16).ble 70368744177664 && (0 + l.length).ble 70368744177664) <|
 gd ((0 + l.length).ble (0 + l.length) && true) <|
 gd ((0 + l.length).ble (0 + l.length) && true) <|
 some ([(false, [.tr true (.arr (2) (0 + l.length) (appF 0 (fun j k => T.hole) (plainF (atL Hd.cs l))))])], [(false, [])])) := by kernel_rfl
theorem s_clH : EntOk prog i_clH e_clH := ent_ok ea_clH_inj fun l hl => by
  have hlm := lm
  have hl' : l.length ≤ LM := hl
  have hb := br_clH l
  simp only [Nat.zero_add, ble_d, Nat.le_refl, decide_true, Bool.and_true, gd_true, app0, plain_Hd] at hb
  rw [decide_eq_true (show l.length * 16 ≤ 70368744177664 by omega), decide_eq_true (show l.length ≤ 70368744177664 by omega)] at hb
  simp only [Bool.and_true, gd_true] at hb
  refine clone_sound (φ := tabS []) tabS_nil mixed (kp := [(0, [0]), (1, [0, 16]), (2, [8]), (3, [8])]) (n := 0) func154 (name_ok (by kernel_rfl)) (hc := rfl) rfl rfl rfl (fun a w K Q h => wp_value rfl h) (fun a w K Q h => wp_value rfl h) (fun a w K Q Ad k c he h => ?_) (by decide) (fun hk => ?_) hb
  · cases Ad with
    | none => exact wp_value (v := .bool true) (w' := w) (by simp only [execOp, he]; kernel_rfl) h
    | some ad => exact wp_value (v := .bool false) (w' := w) (by simp only [execOp, he]; kernel_rfl) h
  · have : l = [] := List.length_eq_zero_iff.1 hk
    subst this
    have ha : bodyR prog (tabS []) [(0, [0]), (1, [0, 16]), (2, [8]), (3, [8])] 0 f154 (sub (bodyOf f154) [1, 0, 1, 0]) [aT (eL 2 Hd.cs [])] = some ([(false, [.tr true (.arr 2 0 fun _ _ => .hole)])], [(false, [])]) := by kernel_rfl
    exact ha
def i_clI : Nat := 155
def ok_clI (l : List Int) : Prop := l.length ≤ LM
def ea_clI (l : List Int) : List Arg := [aT (eI l)]
def f_clI (l : List Int) : List Int := l
noncomputable def e_clI : Ent := ent [] ok_clI ea_clI (fun l => erT 1 (eI l)) f_clI
theorem ea_clI_inj (x y : List Int) (h : ea_clI x = ea_clI y) : x = y := by
  simp only [ea_clI, aT, List.cons.injEq, Prod.mk.injEq, true_and, and_true, C.tr.injEq] at h
  exact eI_inj h
theorem dm_clI {l : List Int} (h : ok_clI l) : dom ok_clI ea_clI [(0, false, [C.tr false (T.arr 1 l.length (atL rowI l))])] = true := dom_ea (ea := ea_clI) (x := l) h
theorem iv_clI {l : List Int} (h : ok_clI l) : inv ok_clI ea_clI [(0, false, [C.tr false (T.arr 1 l.length (atL rowI l))])] = l := inv_ea ea_clI_inj (x := l) h
theorem d_clI (l : List Int) : f_clI l = l := rfl
theorem br_clI (l : List Int) : bodyR prog (tabS []) [(0, [0]), (1, [0, 16]), (2, [8]), (3, [8])] 0 f155 (sub (bodyOf f155) [1, 1]) [aT (eI l)] = (
 gd (((0 + l.length) * 8).ble 70368744177664 && (0 + l.length).ble 70368744177664) <|
 gd ((0 + l.length).ble (0 + l.length) && true) <|
 gd ((0 + l.length).ble (0 + l.length) && true) <|
 some ([(false, [.tr true (.arr (1) (0 + l.length) (appF 0 (fun j k => T.hole) (plainF (atL rowI l))))])], [(false, [])])) := by kernel_rfl
theorem s_clI : EntOk prog i_clI e_clI := ent_ok ea_clI_inj fun l hl => by
  have hlm := lm
  have hl' : l.length ≤ LM := hl
  have hb := br_clI l
  simp only [Nat.zero_add, ble_d, Nat.le_refl, decide_true, Bool.and_true, gd_true, app0, plain_I] at hb
  rw [decide_eq_true (show l.length * 8 ≤ 70368744177664 by omega), decide_eq_true (show l.length ≤ 70368744177664 by omega)] at hb
  simp only [Bool.and_true, gd_true] at hb
  refine clone_sound (φ := tabS []) tabS_nil mixed (kp := [(0, [0]), (1, [0, 16]), (2, [8]), (3, [8])]) (n := 0) func155 (name_ok (by kernel_rfl)) (hc := rfl) rfl rfl rfl (fun a w K Q h => wp_value rfl h) (fun a w K Q h => wp_value rfl h) (fun a w K Q Ad k c he h => ?_) (by decide) (fun hk => ?_) hb
  · cases Ad with
    | none => exact wp_value (v := .bool true) (w' := w) (by simp only [execOp, he]; kernel_rfl) h
    | some ad => exact wp_value (v := .bool false) (w' := w) (by simp only [execOp, he]; kernel_rfl) h
  · have : l = [] := List.length_eq_zero_iff.1 hk
    subst this
    have ha : bodyR prog (tabS []) [(0, [0]), (1, [0, 16]), (2, [8]), (3, [8])] 0 f155 (sub (bodyOf f155) [1, 0, 1, 0]) [aT (eI [])] = some ([(false, [.tr true (.arr 1 0 fun _ _ => .hole)])], [(false, [])]) := by kernel_rfl
    exact ha
end Go.Mach.F
section
set_option maxRecDepth 100000
set_option maxHeartbeats 40000000
namespace Go.Mach.F
open Go Go.Mach Go.Proofs.Try
--=set_option maxRecDepth 100000
def ok_iRoom (x : Rm) : Prop := ok_HdS x.kids ∧ ok_SfS x.things ∧ ok_LI x.tags
def ea_iRoom (x : Rm) : List Arg := [aR x.cs]
def f_iRoom (x : Rm) : Rm := x
noncomputable def e_iRoom : Ent := ent [] ok_iRoom ea_iRoom (fun r => erR 1 r.cs) f_iRoom
theorem ea_iRoom_inj (x y : Rm) (h : ea_iRoom x = ea_iRoom y) : x = y := by
  simp only [ea_iRoom, List.cons.injEq, and_true, true_and] at h
  exact Rm.cs_ext (aR_inj h)
theorem dm_iRoom {r : Rm} (h : ok_iRoom r) : dom ok_iRoom ea_iRoom [(0, true, [C.tr false (T.int IntKind.i64 r.h.slot), C.tr false (T.int IntKind.i64 r.h.gen), C.tr false (T.int IntKind.i64 r.up.slot), C.tr false (T.int IntKind.i64 r.up.gen), C.tr false (T.arr 2 r.kids.length (atL Hd.cs r.kids)), C.tr false (T.int IntKind.i64 r.ep), C.tr false (T.int IntKind.i64 r.chunks), C.tr false (T.bool r.cur), C.tr false (T.int IntKind.i64 r.bump), C.tr false (T.arr 1 r.things.length (atL Sf.cs r.things)), C.tr false (T.arr 1 r.tags.length (atL rowI r.tags))])] = true := dom_ea (ea := ea_iRoom) (x := r) h
theorem iv_iRoom {r : Rm} (h : ok_iRoom r) : inv ok_iRoom ea_iRoom [(0, true, [C.tr false (T.int IntKind.i64 r.h.slot), C.tr false (T.int IntKind.i64 r.h.gen), C.tr false (T.int IntKind.i64 r.up.slot), C.tr false (T.int IntKind.i64 r.up.gen), C.tr false (T.arr 2 r.kids.length (atL Hd.cs r.kids)), C.tr false (T.int IntKind.i64 r.ep), C.tr false (T.int IntKind.i64 r.chunks), C.tr false (T.bool r.cur), C.tr false (T.int IntKind.i64 r.bump), C.tr false (T.arr 1 r.things.length (atL Sf.cs r.things)), C.tr false (T.arr 1 r.tags.length (atL rowI r.tags))])] = r := inv_ea ea_iRoom_inj (x := r) h
theorem d_iRoom (r : Rm) : f_iRoom r = r := rfl
def i_iRoom : Nat := 88
noncomputable abbrev F_iRoom : Func := f88
def kp_iRoom : List (Nat × List Nat) := [(0, [4, 5, 8, 9, 128]), (1, [4, 5, 8, 9, 12, 128]), (2, [4, 5, 8, 9, 12, 28, 32, 36, 40, 128]), (3, [4, 5, 8, 9, 12, 28, 32, 36, 40, 44, 128]), (4, [4, 5, 8, 9, 12, 20, 21, 28, 32, 36, 40, 48, 52, 128]), (5, [4, 5, 8, 9, 12, 28, 32, 36, 40, 128]), (6, [4, 5, 8, 9, 12, 28, 32, 36, 40, 128]), (7, [4, 5, 8, 9, 128]), (8, [4, 5, 8, 9, 128])]
def ts_iRoom : List Nat := [0]
def st_iRoom_1 (r : Rm) (nx12 : Nat) (fx12 : Nat → Nat → T) (x40 : Int) : St := [(4, ⟨z0, [(false, [(C.pt (Pt.ptr 5 0 [] 11 0 0))])]⟩), (5, ⟨z0, [(true, [.tr true (T.int IntKind.i64 r.h.1), .tr true (T.int IntKind.i64 r.h.2), .tr true (T.int IntKind.i64 r.up.1), .tr true (T.int IntKind.i64 r.up.2), .tr false (eL 2 Hd.cs r.3), .tr true (T.int IntKind.i64 r.4), .tr true (T.int IntKind.i64 r.5), .tr true (T.bool r.6), .tr true (T.int IntKind.i64 r.7), .tr false (eL 1 Sf.cs r.8), .tr false (eL 1 rowI r.9)])]⟩), (8, ⟨z0, [(false, [(C.pt (Pt.ptr 9 0 [] 11 0 0))])]⟩), (9, ⟨z0, [(true, [.tr true (T.int IntKind.i64 0), .tr true (T.int IntKind.i64 0), .tr true (T.int IntKind.i64 0), .tr true (T.int IntKind.i64 0), .tr true (.arr (2) (0) (fun x x_1 => T.hole)), .tr true (T.int IntKind.i64 0), .tr true (T.int IntKind.i64 0), .tr true (T.bool false), .tr true (T.int IntKind.i64 0), .tr true (.arr (1) (0) (fun x x_1 => T.hole)), .tr true (.arr (1) (0) (fun x x_1 => T.hole))])]⟩), (12, ⟨z0, [(false, [.tr true (.arr (1) (nx12) (fx12))])]⟩), (28, ⟨z0, [(false, [(C.pt (Pt.ptr 5 0 [] 11 0 9))])]⟩), (32, ⟨z0, [(false, [.tr false (eL 1 Sf.cs r.8)])]⟩), (36, ⟨z0, [(false, [.tr true (T.int IntKind.i64 (↑r.8.length : Int))])]⟩), (40, ⟨z0, [(false, [.tr true (T.int IntKind.i64 x40)])]⟩)]
def ex_iRoom_1_1 (r : Rm) (nx12 : Nat) (fx12 : Nat → Nat → T) (x40 : Int) : St := [(4, ⟨z0, [(false, [(C.pt (Pt.ptr 5 0 [] 11 0 0))])]⟩), (5, ⟨z0, [(true, [.tr true (T.int IntKind.i64 r.h.1), .tr true (T.int IntKind.i64 r.h.2), .tr true (T.int IntKind.i64 r.up.1), .tr true (T.int IntKind.i64 r.up.2), .tr false (eL 2 Hd.cs r.3), .tr true (T.int IntKind.i64 r.4), .tr true (T.int IntKind.i64 r.5), .tr true (T.bool r.6), .tr true (T.int IntKind.i64 r.7), .tr false (eL 1 Sf.cs r.8), .tr false (eL 1 rowI r.9)])]⟩), (8, ⟨z0, [(false, [(C.pt (Pt.ptr 9 0 [] 11 0 0))])]⟩), (9, ⟨z0, [(true, [.tr true (T.int IntKind.i64 0), .tr true (T.int IntKind.i64 0), .tr true (T.int IntKind.i64 0), .tr true (T.int IntKind.i64 0), .tr true (.arr (2) (0) (fun x x_1 => T.hole)), .tr true (T.int IntKind.i64 0), .tr true (T.int IntKind.i64 0), .tr true (T.bool false), .tr true (T.int IntKind.i64 0), .tr true (.arr (1) (0) (fun x x_1 => T.hole)), .tr true (.arr (1) (0) (fun x x_1 => T.hole))])]⟩), (12, ⟨z0, [(false, [.tr true (.arr (1) (nx12) (fx12))])]⟩), (28, ⟨z0, [(false, [(C.pt (Pt.ptr 5 0 [] 11 0 9))])]⟩), (32, ⟨z0, [(false, [.tr false (eL 1 Sf.cs r.8)])]⟩), (36, ⟨z0, [(false, [.tr true (T.int IntKind.i64 (↑r.8.length : Int))])]⟩), (40, ⟨z0, [(false, [.tr true (T.int IntKind.i64 x40)])]⟩), (44, ⟨z0, []⟩)]
theorem round_iRoom_1 (r : Rm) (nx12 : Nat) (fx12 : Nat → Nat → T) (x40 : Int) (n : Nat) (K : Ex → St → Res) : roundAt prog (tabS [(i_clB, e_clB), (i_clH, e_clH), (i_clI, e_clI)]) kp_iRoom F_iRoom [1, 1, 0, 1, 0] n (st_iRoom_1 r nx12 fx12 x40) K = (
 bif decide (x40 < (↑r.8.length : Int)) then
  gd (decide (0 ≤ x40) && (x40.toNat.blt r.8.length && true)) <|
  gd ((atL Sf.cs r.8 x40.toNat 0).isArr && (atL Sf.cs r.8 x40.toNat 0).wd.beq 1) <|
  entK ok_clB ea_clB (f_clB) [(0, false, [C.tr false (T.arr 1 (atL Sf.cs r.8 x40.toNat 0).ln (atL Sf.cs r.8 x40.toNat 0).fn)])] fun (r1 : List UInt8) =>
  gd (r1.length.ble r1.length && true) <|
  gd (r1.length.ble r1.length && true) <|
  gd (nx12.ble nx12 && true) <|
  gd (((nx12 + 1) * 24).ble 70368744177664 && (nx12 + 1).ble 70368744177664) <|
  gd ((nx12 + 1).ble (nx12 + 1) && true) <|
  K .normal (st_iRoom_1 r (nx12 + 1) (appF nx12 fx12 (rowsT [[T.arr 1 r1.length (atL rowB r1)]])) (IntKind.i64.wrap (x40 + 1)))
 else
 K (.exit 0) (ex_iRoom_1_1 r nx12 fx12 x40)) := by kernel_rfl
theorem post_iRoom_1_1 (r : Rm) (nx12 : Nat) (fx12 : Nat → Nat → T) (x40 : Int) (n : Nat) : contAt prog (tabS [(i_clB, e_clB), (i_clH, e_clH), (i_clI, e_clI)]) kp_iRoom F_iRoom ts_iRoom [1, 1, 0, 1, 0] [] n (.exit 0) (ex_iRoom_1_1 r nx12 fx12 x40) = (
 entK ok_clH ea_clH (f_clH) [(0, false, [C.tr false (eL 2 Hd.cs r.3)])] fun (r2 : List Hd) =>
 entK ok_clI ea_clI (f_clI) [(0, false, [C.tr false (eL 1 rowI r.9)])] fun (r3 : List Int) =>
 gd (r2.length.ble r2.length && true) <|
 gd (nx12.ble nx12 && true) <|
 gd (r3.length.ble r3.length && true) <|
 gd (r2.length.ble r2.length && true) <|
 gd (nx12.ble nx12 && true) <|
 gd (r3.length.ble r3.length && true) <|
 gd (r2.length.ble r2.length && true) <|
 gd (nx12.ble nx12 && true) <|
 gd (r3.length.ble r3.length && true) <|
 some ([(true, [.tr true (T.int IntKind.i64 r.h.1), .tr true (T.int IntKind.i64 r.h.2), .tr true (T.int IntKind.i64 r.up.1), .tr true (T.int IntKind.i64 r.up.2), .tr true (.arr (2) (r2.length) ((eL 2 Hd.cs r2).fn)), .tr true (T.int IntKind.i64 r.4), .tr true (T.int IntKind.i64 r.5), .tr true (T.bool r.6), .tr true (T.int IntKind.i64 r.7), .tr true (.arr (1) (nx12) (fx12)), .tr true (.arr (1) (r3.length) (atL rowI r3))])], [(false, [])])) := by kernel_rfl
theorem pre_iRoom (r : Rm) (n : Nat) : body prog (tabS [(i_clB, e_clB), (i_clH, e_clH), (i_clI, e_clI)]) kp_iRoom n F_iRoom [aR r.cs] = (
 loopAt prog (tabS [(i_clB, e_clB), (i_clH, e_clH), (i_clI, e_clI)]) kp_iRoom F_iRoom [1, 1, 0, 1, 0] n n (st_iRoom_1 r (0) (rowsT []) (0)) (contAt prog (tabS [(i_clB, e_clB), (i_clH, e_clH), (i_clI, e_clI)]) kp_iRoom F_iRoom ts_iRoom [1, 1, 0, 1, 0] [] n)) := by kernel_rfl
def ok_sRoom (x : Rm) : Prop := ok_HdS x.kids ∧ ok_SfS x.things ∧ ok_LI x.tags
def ea_sRoom (x : Rm) : List Arg := [aR x.cs]
def f_sRoom (x : Rm) : Rm := x
noncomputable def e_sRoom : Ent := ent [] ok_sRoom ea_sRoom (fun r => erR 1 r.cs) f_sRoom
theorem ea_sRoom_inj (x y : Rm) (h : ea_sRoom x = ea_sRoom y) : x = y := by
  simp only [ea_sRoom, List.cons.injEq, and_true, true_and] at h
  exact Rm.cs_ext (aR_inj h)
theorem dm_sRoom {r : Rm} (h : ok_sRoom r) : dom ok_sRoom ea_sRoom [(0, true, [C.tr false (T.int IntKind.i64 r.h.slot), C.tr false (T.int IntKind.i64 r.h.gen), C.tr false (T.int IntKind.i64 r.up.slot), C.tr false (T.int IntKind.i64 r.up.gen), C.tr false (T.arr 2 r.kids.length (atL Hd.cs r.kids)), C.tr false (T.int IntKind.i64 r.ep), C.tr false (T.int IntKind.i64 r.chunks), C.tr false (T.bool r.cur), C.tr false (T.int IntKind.i64 r.bump), C.tr false (T.arr 1 r.things.length (atL Sf.cs r.things)), C.tr false (T.arr 1 r.tags.length (atL rowI r.tags))])] = true := dom_ea (ea := ea_sRoom) (x := r) h
theorem iv_sRoom {r : Rm} (h : ok_sRoom r) : inv ok_sRoom ea_sRoom [(0, true, [C.tr false (T.int IntKind.i64 r.h.slot), C.tr false (T.int IntKind.i64 r.h.gen), C.tr false (T.int IntKind.i64 r.up.slot), C.tr false (T.int IntKind.i64 r.up.gen), C.tr false (T.arr 2 r.kids.length (atL Hd.cs r.kids)), C.tr false (T.int IntKind.i64 r.ep), C.tr false (T.int IntKind.i64 r.chunks), C.tr false (T.bool r.cur), C.tr false (T.int IntKind.i64 r.bump), C.tr false (T.arr 1 r.things.length (atL Sf.cs r.things)), C.tr false (T.arr 1 r.tags.length (atL rowI r.tags))])] = r := inv_ea ea_sRoom_inj (x := r) h
theorem d_sRoom (r : Rm) : f_sRoom r = r := rfl
def i_sRoom : Nat := 86
noncomputable abbrev F_sRoom : Func := f86
def kp_sRoom : List (Nat × List Nat) := [(0, [4, 5, 8, 9, 12, 13, 20, 156]), (1, [4, 5, 8, 9, 12, 13, 20, 156]), (2, [4, 5, 8, 9, 12, 13, 20, 156]), (3, [4, 5, 8, 9, 12, 13, 20, 156]), (4, [4, 5, 8, 9, 12, 13, 20, 156]), (5, [4, 5, 8, 9, 12, 13, 16, 20, 156]), (6, [4, 5, 8, 9, 12, 13, 16, 20, 88, 156]), (7, [4, 5, 8, 9, 12, 13, 16, 20, 156]), (8, [4, 5, 8, 9, 12, 13, 16, 20, 156]), (9, [4, 5, 8, 9, 12, 13, 20, 156])]
def ts_sRoom : List Nat := [0]
def st_sRoom_1 (r : Rm) (nx13_9 : Nat) (fx13_9 : Nat → Nat → T) (x16 : Int) : St := [(4, ⟨z0, [(false, [(C.pt (Pt.ptr 5 0 [] 11 0 0))])]⟩), (5, ⟨z0, [(true, [.tr true (T.int IntKind.i64 r.h.1), .tr true (T.int IntKind.i64 r.h.2), .tr true (T.int IntKind.i64 r.up.1), .tr true (T.int IntKind.i64 r.up.2), .tr false (eL 2 Hd.cs r.3), .tr true (T.int IntKind.i64 r.4), .tr true (T.int IntKind.i64 r.5), .tr true (T.bool r.6), .tr true (T.int IntKind.i64 r.7), .tr false (eL 1 Sf.cs r.8), .tr false (eL 1 rowI r.9)])]⟩), (8, ⟨z0, [(false, [(C.pt (Pt.ptr 9 0 [] 11 0 0))])]⟩), (9, ⟨z0, [(true, [.tr true (T.int IntKind.i64 0), .tr true (T.int IntKind.i64 0), .tr true (T.int IntKind.i64 0), .tr true (T.int IntKind.i64 0), .tr true (.arr (2) (0) (fun x x_1 => T.hole)), .tr true (T.int IntKind.i64 0), .tr true (T.int IntKind.i64 0), .tr true (T.bool false), .tr true (T.int IntKind.i64 0), .tr true (.arr (1) (0) (fun x x_1 => T.hole)), .tr true (.arr (1) (0) (fun x x_1 => T.hole))])]⟩), (12, ⟨z0, [(false, [(C.pt (Pt.ptr 13 0 [] 11 0 0))])]⟩), (13, ⟨z0, [(true, [.tr true (T.int IntKind.i64 r.h.1), .tr true (T.int IntKind.i64 r.h.2), .tr true (T.int IntKind.i64 r.up.1), .tr true (T.int IntKind.i64 r.up.2), .tr true (.arr (2) (0 + r.3.length) (appF 0 (rowsT []) (plainF (atL Hd.cs r.3)))), .tr true (T.int IntKind.i64 r.4), .tr true (T.int IntKind.i64 r.5), .tr true (T.bool r.6), .tr true (T.int IntKind.i64 r.7), .tr true (.arr (1) (nx13_9) (fx13_9)), .tr true (.arr (1) (0 + r.9.length) (appF 0 (rowsT []) (plainF (atL rowI r.9))))])]⟩), (16, ⟨z0, [(false, [.tr true (T.int IntKind.i64 x16)])]⟩), (20, ⟨z0, [(true, [.tr true (T.int IntKind.i64 r.h.1), .tr true (T.int IntKind.i64 r.h.2), .tr true (T.int IntKind.i64 r.up.1), .tr true (T.int IntKind.i64 r.up.2), .tr false (eL 2 Hd.cs r.3), .tr true (T.int IntKind.i64 r.4), .tr true (T.int IntKind.i64 r.5), .tr true (T.bool r.6), .tr true (T.int IntKind.i64 r.7), .tr false (eL 1 Sf.cs r.8), .tr false (eL 1 rowI r.9)])]⟩)]
def ex_sRoom_1_1 (r : Rm) (nx13_9 : Nat) (fx13_9 : Nat → Nat → T) (x16 : Int) : St := [(4, ⟨z0, [(false, [(C.pt (Pt.ptr 5 0 [] 11 0 0))])]⟩), (5, ⟨z0, [(true, [.tr true (T.int IntKind.i64 r.h.1), .tr true (T.int IntKind.i64 r.h.2), .tr true (T.int IntKind.i64 r.up.1), .tr true (T.int IntKind.i64 r.up.2), .tr false (eL 2 Hd.cs r.3), .tr true (T.int IntKind.i64 r.4), .tr true (T.int IntKind.i64 r.5), .tr true (T.bool r.6), .tr true (T.int IntKind.i64 r.7), .tr false (eL 1 Sf.cs r.8), .tr false (eL 1 rowI r.9)])]⟩), (8, ⟨z0, [(false, [(C.pt (Pt.ptr 9 0 [] 11 0 0))])]⟩), (9, ⟨z0, [(true, [.tr true (T.int IntKind.i64 0), .tr true (T.int IntKind.i64 0), .tr true (T.int IntKind.i64 0), .tr true (T.int IntKind.i64 0), .tr true (.arr (2) (0) (fun x x_1 => T.hole)), .tr true (T.int IntKind.i64 0), .tr true (T.int IntKind.i64 0), .tr true (T.bool false), .tr true (T.int IntKind.i64 0), .tr true (.arr (1) (0) (fun x x_1 => T.hole)), .tr true (.arr (1) (0) (fun x x_1 => T.hole))])]⟩), (12, ⟨z0, [(false, [(C.pt (Pt.ptr 13 0 [] 11 0 0))])]⟩), (13, ⟨z0, [(true, [.tr true (T.int IntKind.i64 r.h.1), .tr true (T.int IntKind.i64 r.h.2), .tr true (T.int IntKind.i64 r.up.1), .tr true (T.int IntKind.i64 r.up.2), .tr true (.arr (2) (0 + r.3.length) (appF 0 (rowsT []) (plainF (atL Hd.cs r.3)))), .tr true (T.int IntKind.i64 r.4), .tr true (T.int IntKind.i64 r.5), .tr true (T.bool r.6), .tr true (T.int IntKind.i64 r.7), .tr true (.arr (1) (nx13_9) (fx13_9)), .tr true (.arr (1) (0 + r.9.length) (appF 0 (rowsT []) (plainF (atL rowI r.9))))])]⟩), (16, ⟨z0, [(false, [.tr true (T.int IntKind.i64 x16)])]⟩), (20, ⟨z0, [(true, [.tr true (T.int IntKind.i64 r.h.1), .tr true (T.int IntKind.i64 r.h.2), .tr true (T.int IntKind.i64 r.up.1), .tr true (T.int IntKind.i64 r.up.2), .tr false (eL 2 Hd.cs r.3), .tr true (T.int IntKind.i64 r.4), .tr true (T.int IntKind.i64 r.5), .tr true (T.bool r.6), .tr true (T.int IntKind.i64 r.7), .tr false (eL 1 Sf.cs r.8), .tr false (eL 1 rowI r.9)])]⟩), (88, ⟨z0, []⟩)]
theorem round_sRoom_1 (r : Rm) (nx13_9 : Nat) (fx13_9 : Nat → Nat → T) (x16 : Int) (n : Nat) (K : Ex → St → Res) : roundAt prog (tabS []) kp_sRoom F_sRoom [1, 1, 1, 1, 1, 0, 1, 0] n (st_sRoom_1 r nx13_9 fx13_9 x16) K = (
 bif decide (x16 < (↑r.8.length : Int)) then
  gd (decide (0 ≤ x16) && (x16.toNat.blt r.8.length && true)) <|
  gd ((atL Sf.cs r.8 x16.toNat 0).isArr && (atL Sf.cs r.8 x16.toNat 0).wd.beq 1) <|
  gd (((0 + (atL Sf.cs r.8 x16.toNat 0).ln) * 1).ble 70368744177664 &&
  (0 + (atL Sf.cs r.8 x16.toNat 0).ln).ble 70368744177664) <|
  gd ((0 + (atL Sf.cs r.8 x16.toNat 0).ln).ble (0 + (atL Sf.cs r.8 x16.toNat 0).ln) && true) <|
  gd ((0 + (atL Sf.cs r.8 x16.toNat 0).ln).ble (0 + (atL Sf.cs r.8 x16.toNat 0).ln) && true) <|
  gd (nx13_9.ble nx13_9 && true) <|
  gd (((nx13_9 + 1) * 24).ble 70368744177664 && (nx13_9 + 1).ble 70368744177664) <|
  gd ((nx13_9 + 1).ble (nx13_9 + 1) && true) <|
  K .normal (st_sRoom_1 r (nx13_9 + 1) (appF nx13_9 fx13_9
  (rowsT [[T.arr 1 (0 + (atL Sf.cs r.8 x16.toNat 0).ln) (appF 0 (rowsT []) (plainF (atL Sf.cs r.8 x16.toNat 0).fn))]])) (IntKind.i64.wrap (x16 + 1)))
 else
 K (.exit 0) (ex_sRoom_1_1 r nx13_9 fx13_9 x16)) := by kernel_rfl
theorem post_sRoom_1_1 (r : Rm) (nx13_9 : Nat) (fx13_9 : Nat → Nat → T) (x16 : Int) (n : Nat) : contAt prog (tabS []) kp_sRoom F_sRoom ts_sRoom [1, 1, 1, 1, 1, 0, 1, 0] [] n (.exit 0) (ex_sRoom_1_1 r nx13_9 fx13_9 x16) = (
 gd ((0 + r.3.length).ble (0 + r.3.length) && true) <|
 gd (nx13_9.ble nx13_9 && true) <|
 gd ((0 + r.9.length).ble (0 + r.9.length) && true) <|
 gd ((0 + r.3.length).ble (0 + r.3.length) && true) <|
 gd (nx13_9.ble nx13_9 && true) <|
 gd ((0 + r.9.length).ble (0 + r.9.length) && true) <|
 some ([(true, [.tr true (T.int IntKind.i64 r.h.1), .tr true (T.int IntKind.i64 r.h.2), .tr true (T.int IntKind.i64 r.up.1), .tr true (T.int IntKind.i64 r.up.2), .tr true (.arr (2) (0 + r.3.length) (appF 0 (rowsT []) (plainF (atL Hd.cs r.3)))), .tr true (T.int IntKind.i64 r.4), .tr true (T.int IntKind.i64 r.5), .tr true (T.bool r.6), .tr true (T.int IntKind.i64 r.7), .tr true (.arr (1) (nx13_9) (fx13_9)), .tr true (.arr (1) (0 + r.9.length) (appF 0 (rowsT []) (plainF (atL rowI r.9))))])], [(false, [])])) := by kernel_rfl
theorem pre_sRoom (r : Rm) (n : Nat) : body prog (tabS []) kp_sRoom n F_sRoom [aR r.cs] = (
 gd (((0 + r.3.length) * 16).ble 70368744177664 && (0 + r.3.length).ble 70368744177664) <|
 gd ((0 + r.3.length).ble (0 + r.3.length) && true) <|
 gd (((0 + r.9.length) * 8).ble 70368744177664 && (0 + r.9.length).ble 70368744177664) <|
 gd ((0 + r.9.length).ble (0 + r.9.length) && true) <|
 loopAt prog (tabS []) kp_sRoom F_sRoom [1, 1, 1, 1, 1, 0, 1, 0] n n (st_sRoom_1 r (0) (rowsT []) (0)) (contAt prog (tabS []) kp_sRoom F_sRoom ts_sRoom [1, 1, 1, 1, 1, 0, 1, 0] [] n)) := by kernel_rfl
end Go.Mach.F
end
namespace Go.Mach.F
open Go Go.Mach Go.Proofs.Try
theorem rowsT0 {α : Type} (row : α → List T) : rowsT [] = atL row ([] : List α) := by
  funext j k
  simp [rowsT, atL]
theorem app1g {α : Type} (row : α → List T) (out : List α) (x : α) : appF out.length (atL row out) (rowsT [row x]) = atL row (out ++ [x]) := by
  funext j k
  unfold appF
  rw [blt_d, Bool.cond_decide]
  by_cases h : j < out.length
  · rw [if_pos h]
    unfold atL
    rw [List.getElem?_append_left h]
  · rw [if_neg h]
    unfold atL
    rw [List.getElem?_append_right (by omega)]
    obtain ⟨d, hd⟩ : ∃ d, d = j - out.length := ⟨_, rfl⟩
    rw [← hd]
    cases d with
    | zero => rfl
    | succ d => simp [rowsT]
theorem take_app {α : Type} {l : List α} {i : Nat} {x : α} (row : α → List T) (h : l[i]? = some x) : appF i (atL row (l.take i)) (rowsT [row x]) = atL row (l.take (i + 1)) := by
  have hi : i < l.length := (List.getElem?_eq_some_iff.1 h).1
  have := app1g row (l.take i) x
  rw [List.length_take, show min i l.length = i by omega] at this
  rw [this, List.take_add_one, h]
  rfl
theorem body_iRoom (r : Rm) (h : ok_iRoom r) : body prog (tabS [(i_clB, e_clB), (i_clH, e_clH), (i_clI, e_clI)]) kp_iRoom (r.things.length + 1) F_iRoom (ea_iRoom r) = some (erR 1 (f_iRoom r).cs) := by
  have hlm := lm
  obtain ⟨h0, h1, h2⟩ : ok_HdS r.kids ∧ ok_SfS r.things ∧ ok_LI r.tags := h
  have hl : r.things.length ≤ LM := h1.1
  unfold ea_iRoom f_iRoom
  rw [pre_iRoom]
  have hst : st_iRoom_1 r 0 (rowsT []) 0 = (fun i : Nat => st_iRoom_1 r i (atL Sf.cs (r.things.take i)) (i : Nat)) 0 := by
    rw [rowsT0 Sf.cs]
    rfl
  rw [hst, forLoop r.things.length (fun i : Nat => st_iRoom_1 r i (atL Sf.cs (r.things.take i)) (i : Nat)) (ex_iRoom_1_1 r r.things.length (atL Sf.cs r.things) r.things.length) 0 (fun i K hi => ?_) (fun K => ?_) _ (Nat.le_refl _)]
  · have c1 : ok_clH r.kids := h0.1
    have c2 : ok_clI r.tags := h2
    rw [post_iRoom_1_1]
    simp only [lt_d, ge0_d, Int.toNat_natCast, blt_d, ble_self, beq_self, decide_true, cond_true, Bool.and_self, Bool.and_true, Bool.true_and, gd_true, Nat.zero_add, List.getD_cons_zero, List.getD_cons_succ, isI_int, toI_int, isB_bool, toB_bool, eL_T, arr_ln, arr_fn, arr_wd, arr_is, arr_get, eL_T, ble_d, Nat.le_refl, entK_of (dm_clH c1) (iv_clH c1), d_clH, entK_of (dm_clI c2) (iv_clI c2), d_clI]
    rfl
  · have hx := List.getElem?_eq_getElem hi
    obtain ⟨x, hxe⟩ : ∃ x, x = r.things[i] := ⟨_, rfl⟩
    rw [← hxe] at hx
    have c0 : ok_clB x.b := h1.2 _ (List.mem_of_getElem? hx)
    rw [round_iRoom_1, ← take_app Sf.cs hx]
    have hs : (i + 1) * 24 ≤ 70368744177664 := by omega
    have hs2 : i + 1 ≤ 70368744177664 := by omega
    simp (disch := omega) only [lt_d, ge0_d, Int.toNat_natCast, blt_d, ble_self, beq_self, decide_true, cond_true, Bool.and_self, Bool.and_true, Bool.true_and, gd_true, Nat.zero_add, List.getD_cons_zero, List.getD_cons_succ, isI_int, toI_int, isB_bool, toB_bool, eL_T, arr_ln, arr_fn, arr_wd, arr_is, arr_get, eL_T, ble_d, Nat.le_refl, hi, hs, hs2, atL_of hx, Sf.cs, wrapS, entK_of (dm_clB c0) (iv_clB c0), d_clB]
  · rw [round_iRoom_1]
    simp only [lt_d, Nat.lt_irrefl, decide_false, cond_false, List.take_length]
theorem s_iRoom : EntOk prog i_iRoom e_iRoom := ent_ok ea_iRoom_inj fun x hx =>
  body_sound (φ := (tabS [(i_clB, e_clB), (i_clH, e_clH), (i_clI, e_clI)])) (tabS_cons s_clB (tabS_cons s_clH (tabS_cons s_clI tabS_nil))) mixed (kp := kp_iRoom) (n := x.things.length + 1) func88 (c := bodyOf F_iRoom) (by kernel_rfl) (body_iRoom x hx) (name_ok (by kernel_rfl))
theorem body_sRoom (r : Rm) (h : ok_sRoom r) : body prog (tabS []) kp_sRoom (r.things.length + 1) F_sRoom (ea_sRoom r) = some (erR 1 (f_sRoom r).cs) := by
  have hlm := lm
  obtain ⟨h0, h1, h2⟩ : ok_HdS r.kids ∧ ok_SfS r.things ∧ ok_LI r.tags := h
  have hl : r.things.length ≤ LM := h1.1
  have hk : r.kids.length ≤ LM := h0.1
  have ht : r.tags.length ≤ LM := h2
  unfold ea_sRoom f_sRoom
  rw [pre_sRoom]
  have q1 : r.kids.length * 16 ≤ 70368744177664 := by omega
  have q2 : r.kids.length ≤ 70368744177664 := by omega
  have q3 : r.tags.length * 8 ≤ 70368744177664 := by omega
  have q4 : r.tags.length ≤ 70368744177664 := by omega
  simp only [lt_d, ge0_d, Int.toNat_natCast, blt_d, ble_self, beq_self, decide_true, cond_true, Bool.and_self, Bool.and_true, Bool.true_and, gd_true, Nat.zero_add, List.getD_cons_zero, List.getD_cons_succ, isI_int, toI_int, isB_bool, toB_bool, eL_T, arr_ln, arr_fn, arr_wd, arr_is, arr_get, ble_d, Nat.le_refl, q1, q2, q3, q4]
  have hst : st_sRoom_1 r 0 (rowsT []) 0 = (fun i : Nat => st_sRoom_1 r i (atL Sf.cs (r.things.take i)) (i : Nat)) 0 := by
    rw [rowsT0 Sf.cs]
    rfl
  rw [hst, forLoop r.things.length (fun i : Nat => st_sRoom_1 r i (atL Sf.cs (r.things.take i)) (i : Nat)) (ex_sRoom_1_1 r r.things.length (atL Sf.cs r.things) r.things.length) 0 (fun i K hi => ?_) (fun K => ?_) _ (Nat.le_refl _)]
  · rw [post_sRoom_1_1]
    have e1 : appF 0 (rowsT []) (plainF (atL Hd.cs r.kids)) = atL Hd.cs r.kids := by rw [plain_Hd, app0]
    have e2 : appF 0 (rowsT []) (plainF (atL rowI r.tags)) = atL rowI r.tags := by rw [plain_I, app0]
    simp only [lt_d, ge0_d, Int.toNat_natCast, blt_d, ble_self, beq_self, decide_true, cond_true, Bool.and_self, Bool.and_true, Bool.true_and, gd_true, Nat.zero_add, List.getD_cons_zero, List.getD_cons_succ, isI_int, toI_int, isB_bool, toB_bool, eL_T, arr_ln, arr_fn, arr_wd, arr_is, arr_get, ble_d, Nat.le_refl, e1, e2]
    rfl
  · have hx := List.getElem?_eq_getElem hi
    obtain ⟨x, hxe⟩ : ∃ x, x = r.things[i] := ⟨_, rfl⟩
    rw [← hxe] at hx
    have c0 : x.b.length ≤ LM := h1.2 _ (List.mem_of_getElem? hx)
    rw [round_sRoom_1, ← take_app Sf.cs hx]
    have hs : (i + 1) * 24 ≤ 70368744177664 := by omega
    have hs2 : i + 1 ≤ 70368744177664 := by omega
    have hs3 : x.b.length * 1 ≤ 70368744177664 := by omega
    have hs4 : x.b.length ≤ 70368744177664 := by omega
    have e1 : appF 0 (rowsT []) (plainF (atL rowB x.b)) = atL rowB x.b := by rw [plain_B, app0]
    simp (disch := omega) only [lt_d, ge0_d, Int.toNat_natCast, blt_d, ble_self, beq_self, decide_true, cond_true, Bool.and_self, Bool.and_true, Bool.true_and, gd_true, Nat.zero_add, List.getD_cons_zero, List.getD_cons_succ, isI_int, toI_int, isB_bool, toB_bool, eL_T, arr_ln, arr_fn, arr_wd, arr_is, arr_get, eL_T, ble_d, Nat.le_refl, hi, hs, hs2, hs3, hs4, atL_of hx, Sf.cs, wrapS, e1]
  · rw [round_sRoom_1]
    simp only [lt_d, Nat.lt_irrefl, decide_false, cond_false, List.take_length]
theorem s_sRoom : EntOk prog i_sRoom e_sRoom := ent_ok ea_sRoom_inj fun x hx =>
  body_sound (φ := (tabS [])) tabS_nil mixed (kp := kp_sRoom) (n := x.things.length + 1) func86 (c := bodyOf F_sRoom) (by kernel_rfl) (body_sRoom x hx) (name_ok (by kernel_rfl))
end Go.Mach.F
namespace Go.Mach.F
open Go Go.Mach Go.Proofs.Try
--=set_option maxRecDepth 100000
def zRm : Rm := ⟨⟨0, 0⟩, ⟨0, 0⟩, [], 0, 0, false, 0, [], []⟩
end Go.Mach.F
namespace Go.Mach.F
open Go Go.Mach Go.Proofs.Try
theorem rof_lt {l : List Rm} {h : Hd} (h0 : ¬ rof l h < 0) : 0 ≤ rof l h ∧ (rof l h).toNat < l.length := by
  refine ⟨by omega, ?_⟩
  unfold rof at h0 ⊢
  cases hf : (List.range l.length).find? (fun i => decide (l[i]?.map Rm.h = some h)) with
  | some i =>
    have := List.mem_range.1 (List.mem_of_find?_eq_some hf)
    simpa using this
  | none =>
    rw [hf] at h0
    exact absurd (by decide) h0
theorem getD_get {l : List Rm} {k : Nat} (h : k < l.length) : l[k]? = some (l.getD k zRm) := by
  rw [List.getD_eq_getElem?_getD, List.getElem?_eq_getElem h]
  rfl
end Go.Mach.F
namespace Go.Mach.F
open Go Go.Mach Go.Proofs.Try
--=set_option maxRecDepth 100000
def i_iHOk : Nat := 163
noncomputable abbrev F_iHOk : Func := f163
def kp_iHOk : List (Nat × List Nat) := [(0, [4, 5, 28, 32, 36]), (1, [8])]
noncomputable def e_iHOk : Ent := inl [] prog (tabS []) kp_iHOk 0 F_iHOk
theorem s_iHOk : EntOk prog i_iHOk e_iHOk := inl_ok tabS_nil mixed (c := bodyOf F_iHOk) func163 (by kernel_rfl) (name_ok (by kernel_rfl))
def i_sHOk : Nat := 162
noncomputable abbrev F_sHOk : Func := f162
def kp_sHOk : List (Nat × List Nat) := [(0, [4, 5, 28, 32, 36]), (1, [8])]
noncomputable def e_sHOk : Ent := inl [] prog (tabS []) kp_sHOk 0 F_sHOk
theorem s_sHOk : EntOk prog i_sHOk e_sHOk := inl_ok tabS_nil mixed (c := bodyOf F_sHOk) func162 (by kernel_rfl) (name_ok (by kernel_rfl))
end Go.Mach.F
namespace Go.Mach.F
open Go Go.Mach Go.Proofs.Try
--=set_option maxRecDepth 100000
def hOk (h : Hd) : Bool := decide (0 ≤ h.slot) && decide (1 ≤ h.gen)
def rsv (m : Ml) (h : Hd) : Int × Int := bif hOk h then (bif decide (rof m.rooms h < 0) then (-1, 2) else (rof m.rooms h, 0)) else (-1, 1)
def ok_iRsv (x : Ml × Hd) : Prop := x.1.rooms.length ≤ LM
def ea_iRsv (x : Ml × Hd) : List Arg := [aR x.1.cs, aR x.2.cs]
def f_iRsv (x : Ml × Hd) : Int × Int := rsv x.1 x.2
noncomputable def e_iRsv : Ent := ent [] ok_iRsv ea_iRsv (fun (x : Int × Int) => ([oT (.int .i64 x.1), oT (.int .i64 x.2)], [nul, nul])) f_iRsv
theorem ea_iRsv_inj (x y : Ml × Hd) (h : ea_iRsv x = ea_iRsv y) : x = y := by
  obtain ⟨m1, h1⟩ := x
  obtain ⟨m2, h2⟩ := y
  simp only [ea_iRsv, List.cons.injEq, and_true, true_and] at h
  obtain ⟨e0, e1⟩ := h
  obtain rfl := Ml.cs_ext (aR_inj e0)
  obtain rfl := Hd.cs_ext (aR_inj e1)
  rfl
theorem dm_iRsv {m : Ml} {h : Hd} (h0 : ok_iRsv (m, h)) : dom ok_iRsv ea_iRsv [(0, true, [C.tr false (T.int IntKind.i64 m.c.chunks), C.tr false (T.int IntKind.i64 m.c.size), C.tr false (T.int IntKind.i64 m.c.slots), C.tr false (T.int IntKind.i64 m.c.tax), C.tr false (T.int IntKind.i64 m.c.slice), C.tr false (T.int IntKind.i64 m.c.gens), C.tr false (T.arr 11 m.rooms.length (atL Rm.cs m.rooms)), C.tr false (T.arr 1 m.log.length (atL rowI m.log))]), (0, true, [C.tr false (T.int IntKind.i64 h.slot), C.tr false (T.int IntKind.i64 h.gen)])] = true := dom_ea (ea := ea_iRsv) (x := (m, h)) h0
theorem iv_iRsv {m : Ml} {h : Hd} (h0 : ok_iRsv (m, h)) : inv ok_iRsv ea_iRsv [(0, true, [C.tr false (T.int IntKind.i64 m.c.chunks), C.tr false (T.int IntKind.i64 m.c.size), C.tr false (T.int IntKind.i64 m.c.slots), C.tr false (T.int IntKind.i64 m.c.tax), C.tr false (T.int IntKind.i64 m.c.slice), C.tr false (T.int IntKind.i64 m.c.gens), C.tr false (T.arr 11 m.rooms.length (atL Rm.cs m.rooms)), C.tr false (T.arr 1 m.log.length (atL rowI m.log))]), (0, true, [C.tr false (T.int IntKind.i64 h.slot), C.tr false (T.int IntKind.i64 h.gen)])] = (m, h) := inv_ea ea_iRsv_inj (x := (m, h)) h0
theorem d_iRsv (m : Ml) (h : Hd) : f_iRsv (m, h) = rsv m h := rfl
def i_iRsv : Nat := 112
noncomputable abbrev F_iRsv : Func := f112
def kp_iRsv : List (Nat × List Nat) := [(0, [8, 9, 12, 13]), (1, [8, 9, 12, 13, 36]), (2, [16, 20]), (3, [24]), (4, [24, 56]), (5, [16, 20]), (6, [16, 20])]
theorem pre_iRsv (m : Ml) (h : Hd) (n : Nat) : body prog (tabS [(i_iHOk, e_iHOk), (i_iRoomOf, e_iRoomOf)]) kp_iRsv n F_iRsv [aR m.cs, aR h.cs] = (
 bif decide (0 ≤ h.1) then
  bif !decide (1 ≤ h.2) then
   some ([(false, [.tr true (T.int IntKind.i64 (-1))]), (false, [.tr true (T.int IntKind.i64 1)])], [(false, []), (false, [])])
  else
  entK ok_iRoomOf ea_iRoomOf (f_iRoomOf) [(0, true,
    [C.tr false (T.int IntKind.i64 m.c.1), C.tr false (T.int IntKind.i64 m.c.2),
      C.tr false (T.int IntKind.i64 m.c.3), C.tr false (T.int IntKind.i64 m.c.4),
      C.tr false (T.int IntKind.i64 m.c.5), C.tr false (T.int IntKind.i64 m.c.6), C.tr false (eL 11 Rm.cs m.2),
      C.tr false (eL 1 rowI m.3)]),
  (0, true, [C.tr false (T.int IntKind.i64 h.1), C.tr false (T.int IntKind.i64 h.2)])] fun (r1 : Int) =>
  bif decide (r1 < 0) then
   some ([(false, [.tr true (T.int IntKind.i64 (-1))]), (false, [.tr true (T.int IntKind.i64 2)])], [(false, []), (false, [])])
  else
  some ([(false, [.tr true (T.int IntKind.i64 r1)]), (false, [.tr true (T.int IntKind.i64 0)])], [(false, []), (false, [])])
 else
 some ([(false, [.tr true (T.int IntKind.i64 (-1))]), (false, [.tr true (T.int IntKind.i64 1)])], [(false, []), (false, [])])) := by kernel_rfl
def ok_sRsv (x : Ml × Hd) : Prop := x.1.rooms.length ≤ LM
def ea_sRsv (x : Ml × Hd) : List Arg := [aR x.1.cs, aR x.2.cs]
def f_sRsv (x : Ml × Hd) : Int × Int := rsv x.1 x.2
noncomputable def e_sRsv : Ent := ent [] ok_sRsv ea_sRsv (fun (x : Int × Int) => ([oT (.int .i64 x.1), oT (.int .i64 x.2)], [nul, nul])) f_sRsv
theorem ea_sRsv_inj (x y : Ml × Hd) (h : ea_sRsv x = ea_sRsv y) : x = y := by
  obtain ⟨m1, h1⟩ := x
  obtain ⟨m2, h2⟩ := y
  simp only [ea_sRsv, List.cons.injEq, and_true, true_and] at h
  obtain ⟨e0, e1⟩ := h
  obtain rfl := Ml.cs_ext (aR_inj e0)
  obtain rfl := Hd.cs_ext (aR_inj e1)
  rfl
theorem dm_sRsv {m : Ml} {h : Hd} (h0 : ok_sRsv (m, h)) : dom ok_sRsv ea_sRsv [(0, true, [C.tr false (T.int IntKind.i64 m.c.chunks), C.tr false (T.int IntKind.i64 m.c.size), C.tr false (T.int IntKind.i64 m.c.slots), C.tr false (T.int IntKind.i64 m.c.tax), C.tr false (T.int IntKind.i64 m.c.slice), C.tr false (T.int IntKind.i64 m.c.gens), C.tr false (T.arr 11 m.rooms.length (atL Rm.cs m.rooms)), C.tr false (T.arr 1 m.log.length (atL rowI m.log))]), (0, true, [C.tr false (T.int IntKind.i64 h.slot), C.tr false (T.int IntKind.i64 h.gen)])] = true := dom_ea (ea := ea_sRsv) (x := (m, h)) h0
theorem iv_sRsv {m : Ml} {h : Hd} (h0 : ok_sRsv (m, h)) : inv ok_sRsv ea_sRsv [(0, true, [C.tr false (T.int IntKind.i64 m.c.chunks), C.tr false (T.int IntKind.i64 m.c.size), C.tr false (T.int IntKind.i64 m.c.slots), C.tr false (T.int IntKind.i64 m.c.tax), C.tr false (T.int IntKind.i64 m.c.slice), C.tr false (T.int IntKind.i64 m.c.gens), C.tr false (T.arr 11 m.rooms.length (atL Rm.cs m.rooms)), C.tr false (T.arr 1 m.log.length (atL rowI m.log))]), (0, true, [C.tr false (T.int IntKind.i64 h.slot), C.tr false (T.int IntKind.i64 h.gen)])] = (m, h) := inv_ea ea_sRsv_inj (x := (m, h)) h0
theorem d_sRsv (m : Ml) (h : Hd) : f_sRsv (m, h) = rsv m h := rfl
def i_sRsv : Nat := 109
noncomputable abbrev F_sRsv : Func := f109
def kp_sRsv : List (Nat × List Nat) := [(0, [8, 9, 12, 13]), (1, [8, 9, 12, 13, 36]), (2, [16, 20]), (3, [24]), (4, [24, 56]), (5, [16, 20]), (6, [16, 20])]
theorem pre_sRsv (m : Ml) (h : Hd) (n : Nat) : body prog (tabS [(i_sHOk, e_sHOk), (i_sRoomOf, e_sRoomOf)]) kp_sRsv n F_sRsv [aR m.cs, aR h.cs] = (
 bif decide (0 ≤ h.1) then
  bif !decide (1 ≤ h.2) then
   some ([(false, [.tr true (T.int IntKind.i64 (-1))]), (false, [.tr true (T.int IntKind.i64 1)])], [(false, []), (false, [])])
  else
  entK ok_sRoomOf ea_sRoomOf (f_sRoomOf) [(0, true,
    [C.tr false (T.int IntKind.i64 m.c.1), C.tr false (T.int IntKind.i64 m.c.2),
      C.tr false (T.int IntKind.i64 m.c.3), C.tr false (T.int IntKind.i64 m.c.4),
      C.tr false (T.int IntKind.i64 m.c.5), C.tr false (T.int IntKind.i64 m.c.6), C.tr false (eL 11 Rm.cs m.2),
      C.tr false (eL 1 rowI m.3)]),
  (0, true, [C.tr false (T.int IntKind.i64 h.1), C.tr false (T.int IntKind.i64 h.2)])] fun (r1 : Int) =>
  bif decide (r1 < 0) then
   some ([(false, [.tr true (T.int IntKind.i64 (-1))]), (false, [.tr true (T.int IntKind.i64 2)])], [(false, []), (false, [])])
  else
  some ([(false, [.tr true (T.int IntKind.i64 r1)]), (false, [.tr true (T.int IntKind.i64 0)])], [(false, []), (false, [])])
 else
 some ([(false, [.tr true (T.int IntKind.i64 (-1))]), (false, [.tr true (T.int IntKind.i64 1)])], [(false, []), (false, [])])) := by kernel_rfl
end Go.Mach.F
namespace Go.Mach.F
open Go Go.Mach Go.Proofs.Try
theorem body_iRsv (m : Ml) (h : Hd) (n : Nat) (h0 : ok_iRsv (m, h)) : body prog (tabS [(i_iHOk, e_iHOk), (i_iRoomOf, e_iRoomOf)]) kp_iRsv n F_iRsv (ea_iRsv (m, h)) = some ([oT (.int .i64 (f_iRsv (m, h)).1), oT (.int .i64 (f_iRsv (m, h)).2)], [nul, nul]) := by
  have c0 : ok_iRoomOf (m, h) := h0
  unfold ea_iRsv f_iRsv rsv hOk
  dsimp only
  rw [pre_iRsv]
  by_cases a1 : 0 ≤ h.slot
  case neg =>
    simp only [a1, decide_false, cond_false, Bool.false_and]
    rfl
  by_cases a2 : 1 ≤ h.gen
  case neg =>
    simp only [a1, a2, decide_true, decide_false, cond_true, cond_false, Bool.and_false, Bool.not_false]
    rfl
  simp only [a1, a2, decide_true, cond_true, Bool.and_self, Bool.not_true, cond_false, eL_T, Ml.cs, Hd.cs]
  rw [entK_of (dm_iRoomOf c0) (iv_iRoomOf c0)]
  simp only [d_iRoomOf]
  by_cases e : rof m.rooms h < 0
  · simp only [e, decide_true, cond_true]
    rfl
  · simp only [e, decide_false, cond_false]
    rfl
theorem s_iRsv : EntOk prog i_iRsv e_iRsv := ent_ok ea_iRsv_inj fun x hx =>
  body_sound (φ := (tabS [(i_iHOk, e_iHOk), (i_iRoomOf, e_iRoomOf)])) (tabS_cons s_iHOk (tabS_cons s_iRoomOf tabS_nil)) mixed (kp := kp_iRsv) (n := 0) func112 (c := bodyOf F_iRsv) (by kernel_rfl) (body_iRsv x.1 x.2 (0) hx) (name_ok (by kernel_rfl))
theorem body_sRsv (m : Ml) (h : Hd) (n : Nat) (h0 : ok_sRsv (m, h)) : body prog (tabS [(i_sHOk, e_sHOk), (i_sRoomOf, e_sRoomOf)]) kp_sRsv n F_sRsv (ea_sRsv (m, h)) = some ([oT (.int .i64 (f_sRsv (m, h)).1), oT (.int .i64 (f_sRsv (m, h)).2)], [nul, nul]) := by
  have c0 : ok_sRoomOf (m, h) := h0
  unfold ea_sRsv f_sRsv rsv hOk
  dsimp only
  rw [pre_sRsv]
  by_cases a1 : 0 ≤ h.slot
  case neg =>
    simp only [a1, decide_false, cond_false, Bool.false_and]
    rfl
  by_cases a2 : 1 ≤ h.gen
  case neg =>
    simp only [a1, a2, decide_true, decide_false, cond_true, cond_false, Bool.and_false, Bool.not_false]
    rfl
  simp only [a1, a2, decide_true, cond_true, Bool.and_self, Bool.not_true, cond_false, eL_T, Ml.cs, Hd.cs]
  rw [entK_of (dm_sRoomOf c0) (iv_sRoomOf c0)]
  simp only [d_sRoomOf]
  by_cases e : rof m.rooms h < 0
  · simp only [e, decide_true, cond_true]
    rfl
  · simp only [e, decide_false, cond_false]
    rfl
theorem s_sRsv : EntOk prog i_sRsv e_sRsv := ent_ok ea_sRsv_inj fun x hx =>
  body_sound (φ := (tabS [(i_sHOk, e_sHOk), (i_sRoomOf, e_sRoomOf)])) (tabS_cons s_sHOk (tabS_cons s_sRoomOf tabS_nil)) mixed (kp := kp_sRsv) (n := 0) func109 (c := bodyOf F_sRsv) (by kernel_rfl) (body_sRsv x.1 x.2 (0) hx) (name_ok (by kernel_rfl))
theorem rsv_ok {m : Ml} {h : Hd} (e : (rsv m h).2 = 0) : 0 ≤ (rsv m h).1 ∧ (rsv m h).1.toNat < m.rooms.length := by
  unfold rsv at e ⊢
  cases hr : hOk h with
  | false =>
    rw [hr] at e
    simp at e
  | true =>
    rw [hr] at e
    simp only [cond_true] at e ⊢
    by_cases h1 : rof m.rooms h < 0
    · simp only [h1, decide_true, cond_true] at e
      simp at e
    · simp only [h1, decide_false, cond_false]
      exact rof_lt h1
end Go.Mach.F
namespace Go.Mach.F
open Go Go.Mach Go.Proofs.Try
--=set_option maxRecDepth 100000
def ok_iModel (x : Ml) : Prop := ok_RmS x.rooms ∧ ok_LI x.log
def ea_iModel (x : Ml) : List Arg := [aR x.cs]
def f_iModel (x : Ml) : Ml := x
noncomputable def e_iModel : Ent := ent [] ok_iModel ea_iModel (fun m => erR 1 m.cs) f_iModel
theorem ea_iModel_inj (x y : Ml) (h : ea_iModel x = ea_iModel y) : x = y := by
  simp only [ea_iModel, List.cons.injEq, and_true, true_and] at h
  exact Ml.cs_ext (aR_inj h)
theorem dm_iModel {m : Ml} (h : ok_iModel m) : dom ok_iModel ea_iModel [(0, true, [C.tr false (T.int IntKind.i64 m.c.chunks), C.tr false (T.int IntKind.i64 m.c.size), C.tr false (T.int IntKind.i64 m.c.slots), C.tr false (T.int IntKind.i64 m.c.tax), C.tr false (T.int IntKind.i64 m.c.slice), C.tr false (T.int IntKind.i64 m.c.gens), C.tr false (T.arr 11 m.rooms.length (atL Rm.cs m.rooms)), C.tr false (T.arr 1 m.log.length (atL rowI m.log))])] = true := dom_ea (ea := ea_iModel) (x := m) h
theorem iv_iModel {m : Ml} (h : ok_iModel m) : inv ok_iModel ea_iModel [(0, true, [C.tr false (T.int IntKind.i64 m.c.chunks), C.tr false (T.int IntKind.i64 m.c.size), C.tr false (T.int IntKind.i64 m.c.slots), C.tr false (T.int IntKind.i64 m.c.tax), C.tr false (T.int IntKind.i64 m.c.slice), C.tr false (T.int IntKind.i64 m.c.gens), C.tr false (T.arr 11 m.rooms.length (atL Rm.cs m.rooms)), C.tr false (T.arr 1 m.log.length (atL rowI m.log))])] = m := inv_ea ea_iModel_inj (x := m) h
theorem d_iModel (m : Ml) : f_iModel m = m := rfl
def i_iModel : Nat := 110
noncomputable abbrev F_iModel : Func := f110
def kp_iModel : List (Nat × List Nat) := [(0, [4, 5, 8, 9, 12, 13, 28, 40, 44, 108]), (1, [4, 5, 8, 9, 12, 13, 28, 40, 44, 108]), (2, [4, 5, 8, 9, 12, 13, 28, 40, 44, 48, 52, 56, 60, 108]), (3, [4, 5, 8, 9, 12, 13, 28, 40, 44, 48, 52, 56, 60, 64, 108]), (4, [4, 5, 8, 9, 12, 13, 20, 21, 28, 40, 44, 48, 52, 56, 60, 68, 72, 108]), (5, [4, 5, 8, 9, 12, 13, 28, 40, 44, 48, 52, 56, 60, 108]), (6, [4, 5, 8, 9, 12, 13, 28, 40, 44, 48, 52, 56, 60, 108]), (7, [8, 9, 12, 13, 28, 40, 44, 108])]
def ts_iModel : List Nat := [0]
def st_iModel_1 (m : Ml) (r1 : List Int) (nx13_6 : Nat) (fx13_6 : Nat → Nat → T) (x60 : Int) : St := [(4, ⟨z0, [(false, [(C.pt (Pt.ptr 5 0 [] 8 0 0))])]⟩), (5, ⟨z0, [(true, [.tr true (T.int IntKind.i64 m.c.1), .tr true (T.int IntKind.i64 m.c.2), .tr true (T.int IntKind.i64 m.c.3), .tr true (T.int IntKind.i64 m.c.4), .tr true (T.int IntKind.i64 m.c.5), .tr true (T.int IntKind.i64 m.c.6), .tr false (eL 11 Rm.cs m.2), .tr false (eL 1 rowI m.3)])]⟩), (8, ⟨z0, [(false, [(C.pt (Pt.ptr 9 0 [] 8 0 0))])]⟩), (9, ⟨z0, [(true, [.tr true (T.int IntKind.i64 0), .tr true (T.int IntKind.i64 0), .tr true (T.int IntKind.i64 0), .tr true (T.int IntKind.i64 0), .tr true (T.int IntKind.i64 0), .tr true (T.int IntKind.i64 0), .tr true (.arr (11) (0) (fun x x_1 => T.hole)), .tr true (.arr (1) (0) (fun x x_1 => T.hole))])]⟩), (12, ⟨z0, [(false, [(C.pt (Pt.ptr 13 0 [] 8 0 0))])]⟩), (13, ⟨z0, [(true, [.tr true (T.int IntKind.i64 m.c.1), .tr true (T.int IntKind.i64 m.c.2), .tr true (T.int IntKind.i64 m.c.3), .tr true (T.int IntKind.i64 m.c.4), .tr true (T.int IntKind.i64 m.c.5), .tr true (T.int IntKind.i64 m.c.6), .tr true (.arr (11) (nx13_6) (fx13_6)), .tr true (.arr (1) (r1.length) (atL rowI r1))])]⟩), (28, ⟨z0, [(true, [.tr true (T.int IntKind.i64 m.c.1), .tr true (T.int IntKind.i64 m.c.2), .tr true (T.int IntKind.i64 m.c.3), .tr true (T.int IntKind.i64 m.c.4), .tr true (T.int IntKind.i64 m.c.5), .tr true (T.int IntKind.i64 m.c.6)])]⟩), (40, ⟨z0, [(false, [.tr true (T.hole)])]⟩), (44, ⟨z0, [(true, [.tr true (T.int IntKind.i64 m.c.1), .tr true (T.int IntKind.i64 m.c.2), .tr true (T.int IntKind.i64 m.c.3), .tr true (T.int IntKind.i64 m.c.4), .tr true (T.int IntKind.i64 m.c.5), .tr true (T.int IntKind.i64 m.c.6), .tr true (T.hole), .tr true (T.hole)])]⟩), (48, ⟨z0, [(false, [(C.pt (Pt.ptr 5 0 [] 8 0 6))])]⟩), (52, ⟨z0, [(false, [.tr false (eL 11 Rm.cs m.2)])]⟩), (56, ⟨z0, [(false, [.tr true (T.int IntKind.i64 (↑m.2.length : Int))])]⟩), (60, ⟨z0, [(false, [.tr true (T.int IntKind.i64 x60)])]⟩)]
def ex_iModel_1_1 (m : Ml) (r1 : List Int) (nx13_6 : Nat) (fx13_6 : Nat → Nat → T) (x60 : Int) : St := [(4, ⟨z0, [(false, [(C.pt (Pt.ptr 5 0 [] 8 0 0))])]⟩), (5, ⟨z0, [(true, [.tr true (T.int IntKind.i64 m.c.1), .tr true (T.int IntKind.i64 m.c.2), .tr true (T.int IntKind.i64 m.c.3), .tr true (T.int IntKind.i64 m.c.4), .tr true (T.int IntKind.i64 m.c.5), .tr true (T.int IntKind.i64 m.c.6), .tr false (eL 11 Rm.cs m.2), .tr false (eL 1 rowI m.3)])]⟩), (8, ⟨z0, [(false, [(C.pt (Pt.ptr 9 0 [] 8 0 0))])]⟩), (9, ⟨z0, [(true, [.tr true (T.int IntKind.i64 0), .tr true (T.int IntKind.i64 0), .tr true (T.int IntKind.i64 0), .tr true (T.int IntKind.i64 0), .tr true (T.int IntKind.i64 0), .tr true (T.int IntKind.i64 0), .tr true (.arr (11) (0) (fun x x_1 => T.hole)), .tr true (.arr (1) (0) (fun x x_1 => T.hole))])]⟩), (12, ⟨z0, [(false, [(C.pt (Pt.ptr 13 0 [] 8 0 0))])]⟩), (13, ⟨z0, [(true, [.tr true (T.int IntKind.i64 m.c.1), .tr true (T.int IntKind.i64 m.c.2), .tr true (T.int IntKind.i64 m.c.3), .tr true (T.int IntKind.i64 m.c.4), .tr true (T.int IntKind.i64 m.c.5), .tr true (T.int IntKind.i64 m.c.6), .tr true (.arr (11) (nx13_6) (fx13_6)), .tr true (.arr (1) (r1.length) (atL rowI r1))])]⟩), (28, ⟨z0, [(true, [.tr true (T.int IntKind.i64 m.c.1), .tr true (T.int IntKind.i64 m.c.2), .tr true (T.int IntKind.i64 m.c.3), .tr true (T.int IntKind.i64 m.c.4), .tr true (T.int IntKind.i64 m.c.5), .tr true (T.int IntKind.i64 m.c.6)])]⟩), (40, ⟨z0, [(false, [.tr true (T.hole)])]⟩), (44, ⟨z0, [(true, [.tr true (T.int IntKind.i64 m.c.1), .tr true (T.int IntKind.i64 m.c.2), .tr true (T.int IntKind.i64 m.c.3), .tr true (T.int IntKind.i64 m.c.4), .tr true (T.int IntKind.i64 m.c.5), .tr true (T.int IntKind.i64 m.c.6), .tr true (T.hole), .tr true (T.hole)])]⟩), (48, ⟨z0, [(false, [(C.pt (Pt.ptr 5 0 [] 8 0 6))])]⟩), (52, ⟨z0, [(false, [.tr false (eL 11 Rm.cs m.2)])]⟩), (56, ⟨z0, [(false, [.tr true (T.int IntKind.i64 (↑m.2.length : Int))])]⟩), (60, ⟨z0, [(false, [.tr true (T.int IntKind.i64 x60)])]⟩), (64, ⟨z0, []⟩)]
theorem round_iModel_1 (m : Ml) (r1 : List Int) (nx13_6 : Nat) (fx13_6 : Nat → Nat → T) (x60 : Int) (n : Nat) (K : Ex → St → Res) : roundAt prog (tabS [(i_iRoom, e_iRoom), (i_clI, e_clI)]) kp_iModel F_iModel [1, 1, 0, 1, 0] n (st_iModel_1 m r1 nx13_6 fx13_6 x60) K = (
 bif decide (x60 < (↑m.2.length : Int)) then
  gd (decide (0 ≤ x60) && (x60.toNat.blt m.2.length && true)) <|
  gd (T.isI IntKind.i64 (atL Rm.cs m.2 x60.toNat 0) && T.isI IntKind.i64 (atL Rm.cs m.2 x60.toNat 1) &&
                  T.isI IntKind.i64 (atL Rm.cs m.2 x60.toNat 2) &&
                T.isI IntKind.i64 (atL Rm.cs m.2 x60.toNat 3) &&
              ((atL Rm.cs m.2 x60.toNat 4).isArr && (atL Rm.cs m.2 x60.toNat 4).wd.beq 2) &&
            T.isI IntKind.i64 (atL Rm.cs m.2 x60.toNat 5) &&
          T.isI IntKind.i64 (atL Rm.cs m.2 x60.toNat 6) &&
        (atL Rm.cs m.2 x60.toNat 7).isB &&
      T.isI IntKind.i64 (atL Rm.cs m.2 x60.toNat 8) &&
    ((atL Rm.cs m.2 x60.toNat 9).isArr && (atL Rm.cs m.2 x60.toNat 9).wd.beq 1) &&
  ((atL Rm.cs m.2 x60.toNat 10).isArr && (atL Rm.cs m.2 x60.toNat 10).wd.beq 1)) <|
  entK ok_iRoom ea_iRoom (f_iRoom) [(0, true,
    [C.tr false (T.int IntKind.i64 (atL Rm.cs m.2 x60.toNat 0).toI),
      C.tr false (T.int IntKind.i64 (atL Rm.cs m.2 x60.toNat 1).toI),
      C.tr false (T.int IntKind.i64 (atL Rm.cs m.2 x60.toNat 2).toI),
      C.tr false (T.int IntKind.i64 (atL Rm.cs m.2 x60.toNat 3).toI),
      C.tr false (T.arr 2 (atL Rm.cs m.2 x60.toNat 4).ln (atL Rm.cs m.2 x60.toNat 4).fn),
      C.tr false (T.int IntKind.i64 (atL Rm.cs m.2 x60.toNat 5).toI),
      C.tr false (T.int IntKind.i64 (atL Rm.cs m.2 x60.toNat 6).toI),
      C.tr false (T.bool (atL Rm.cs m.2 x60.toNat 7).toB),
      C.tr false (T.int IntKind.i64 (atL Rm.cs m.2 x60.toNat 8).toI),
      C.tr false (T.arr 1 (atL Rm.cs m.2 x60.toNat 9).ln (atL Rm.cs m.2 x60.toNat 9).fn),
      C.tr false (T.arr 1 (atL Rm.cs m.2 x60.toNat 10).ln (atL Rm.cs m.2 x60.toNat 10).fn)])] fun (r2 : Rm) =>
  gd (r2.3.length.ble r2.3.length && true) <|
  gd (r2.8.length.ble r2.8.length && true) <|
  gd (r2.9.length.ble r2.9.length && true) <|
  gd (nx13_6.ble nx13_6 && true) <|
  gd (((nx13_6 + 1) * 136).ble 70368744177664 && (nx13_6 + 1).ble 70368744177664) <|
  gd ((nx13_6 + 1).ble (nx13_6 + 1) && true) <|
  K .normal (st_iModel_1 m r1 (nx13_6 + 1) (appF nx13_6 fx13_6
  (rowsT
    [[T.int IntKind.i64 r2.h.1, T.int IntKind.i64 r2.h.2, T.int IntKind.i64 r2.up.1,
        T.int IntKind.i64 r2.up.2, T.arr 2 r2.3.length (eL 2 Hd.cs r2.3).fn,
        T.int IntKind.i64 r2.4, T.int IntKind.i64 r2.5, T.bool r2.6, T.int IntKind.i64 r2.7,
        T.arr 1 r2.8.length (eL 1 Sf.cs r2.8).fn, T.arr 1 r2.9.length (eL 1 rowI r2.9).fn]])) (IntKind.i64.wrap (x60 + 1)))
 else
 K (.exit 0) (ex_iModel_1_1 m r1 nx13_6 fx13_6 x60)) := by kernel_rfl
theorem post_iModel_1_1 (m : Ml) (r1 : List Int) (nx13_6 : Nat) (fx13_6 : Nat → Nat → T) (x60 : Int) (n : Nat) : contAt prog (tabS [(i_iRoom, e_iRoom), (i_clI, e_clI)]) kp_iModel F_iModel ts_iModel [1, 1, 0, 1, 0] [] n (.exit 0) (ex_iModel_1_1 m r1 nx13_6 fx13_6 x60) = (
 gd (nx13_6.ble nx13_6 && true) <|
 gd (r1.length.ble r1.length && true) <|
 gd (nx13_6.ble nx13_6 && true) <|
 gd (r1.length.ble r1.length && true) <|
 some ([(true, [.tr true (T.int IntKind.i64 m.c.1), .tr true (T.int IntKind.i64 m.c.2), .tr true (T.int IntKind.i64 m.c.3), .tr true (T.int IntKind.i64 m.c.4), .tr true (T.int IntKind.i64 m.c.5), .tr true (T.int IntKind.i64 m.c.6), .tr true (.arr (11) (nx13_6) (fx13_6)), .tr true (.arr (1) (r1.length) (atL rowI r1))])], [(false, [])])) := by kernel_rfl
theorem pre_iModel (m : Ml) (n : Nat) : body prog (tabS [(i_iRoom, e_iRoom), (i_clI, e_clI)]) kp_iModel n F_iModel [aR m.cs] = (
 entK ok_clI ea_clI (f_clI) [(0, false, [C.tr false (eL 1 rowI m.3)])] fun (r1 : List Int) =>
 gd (r1.length.ble r1.length && true) <|
 gd (r1.length.ble r1.length && true) <|
 loopAt prog (tabS [(i_iRoom, e_iRoom), (i_clI, e_clI)]) kp_iModel F_iModel [1, 1, 0, 1, 0] n n (st_iModel_1 m r1 (0) (fun x x_1 => T.hole) (0)) (contAt prog (tabS [(i_iRoom, e_iRoom), (i_clI, e_clI)]) kp_iModel F_iModel ts_iModel [1, 1, 0, 1, 0] [] n)) := by kernel_rfl
def ok_sModel (x : Ml) : Prop := ok_RmS x.rooms ∧ ok_LI x.log
def ea_sModel (x : Ml) : List Arg := [aR x.cs]
def f_sModel (x : Ml) : Ml := x
noncomputable def e_sModel : Ent := ent [] ok_sModel ea_sModel (fun m => erR 1 m.cs) f_sModel
theorem ea_sModel_inj (x y : Ml) (h : ea_sModel x = ea_sModel y) : x = y := by
  simp only [ea_sModel, List.cons.injEq, and_true, true_and] at h
  exact Ml.cs_ext (aR_inj h)
theorem dm_sModel {m : Ml} (h : ok_sModel m) : dom ok_sModel ea_sModel [(0, true, [C.tr false (T.int IntKind.i64 m.c.chunks), C.tr false (T.int IntKind.i64 m.c.size), C.tr false (T.int IntKind.i64 m.c.slots), C.tr false (T.int IntKind.i64 m.c.tax), C.tr false (T.int IntKind.i64 m.c.slice), C.tr false (T.int IntKind.i64 m.c.gens), C.tr false (T.arr 11 m.rooms.length (atL Rm.cs m.rooms)), C.tr false (T.arr 1 m.log.length (atL rowI m.log))])] = true := dom_ea (ea := ea_sModel) (x := m) h
theorem iv_sModel {m : Ml} (h : ok_sModel m) : inv ok_sModel ea_sModel [(0, true, [C.tr false (T.int IntKind.i64 m.c.chunks), C.tr false (T.int IntKind.i64 m.c.size), C.tr false (T.int IntKind.i64 m.c.slots), C.tr false (T.int IntKind.i64 m.c.tax), C.tr false (T.int IntKind.i64 m.c.slice), C.tr false (T.int IntKind.i64 m.c.gens), C.tr false (T.arr 11 m.rooms.length (atL Rm.cs m.rooms)), C.tr false (T.arr 1 m.log.length (atL rowI m.log))])] = m := inv_ea ea_sModel_inj (x := m) h
theorem d_sModel (m : Ml) : f_sModel m = m := rfl
def i_sModel : Nat := 107
noncomputable abbrev F_sModel : Func := f107
def kp_sModel : List (Nat × List Nat) := [(0, [4, 5, 8, 9, 12, 13, 28, 32, 36, 40, 44, 48, 52, 132]), (1, [4, 5, 8, 9, 12, 13, 28, 32, 36, 40, 44, 48, 52, 132]), (2, [4, 5, 8, 9, 12, 13, 16, 28, 32, 36, 40, 44, 48, 52, 132]), (3, [4, 5, 8, 9, 12, 13, 16, 28, 32, 36, 40, 44, 48, 52, 72, 132]), (4, [4, 5, 8, 9, 12, 13, 16, 28, 32, 36, 40, 44, 48, 52, 132]), (5, [4, 5, 8, 9, 12, 13, 16, 20, 21, 28, 32, 36, 40, 44, 48, 52, 104, 132]), (6, [4, 5, 8, 9, 12, 13, 16, 28, 32, 36, 40, 44, 48, 52, 132]), (7, [4, 5, 8, 9, 12, 13, 28, 32, 36, 40, 44, 48, 52, 132])]
def ts_sModel : List Nat := [0]
def st_sModel_1 (m : Ml) (nx13_6 : Nat) (fx13_6 : Nat → Nat → T) (x16 : Int) : St := [(4, ⟨z0, [(false, [(C.pt (Pt.ptr 5 0 [] 8 0 0))])]⟩), (5, ⟨z0, [(true, [.tr true (T.int IntKind.i64 m.c.1), .tr true (T.int IntKind.i64 m.c.2), .tr true (T.int IntKind.i64 m.c.3), .tr true (T.int IntKind.i64 m.c.4), .tr true (T.int IntKind.i64 m.c.5), .tr true (T.int IntKind.i64 m.c.6), .tr false (eL 11 Rm.cs m.2), .tr false (eL 1 rowI m.3)])]⟩), (8, ⟨z0, [(false, [(C.pt (Pt.ptr 9 0 [] 8 0 0))])]⟩), (9, ⟨z0, [(true, [.tr true (T.int IntKind.i64 0), .tr true (T.int IntKind.i64 0), .tr true (T.int IntKind.i64 0), .tr true (T.int IntKind.i64 0), .tr true (T.int IntKind.i64 0), .tr true (T.int IntKind.i64 0), .tr true (.arr (11) (0) (fun x x_1 => T.hole)), .tr true (.arr (1) (0) (fun x x_1 => T.hole))])]⟩), (12, ⟨z0, [(false, [(C.pt (Pt.ptr 13 0 [] 8 0 0))])]⟩), (13, ⟨z0, [(true, [.tr true (T.int IntKind.i64 m.c.1), .tr true (T.int IntKind.i64 m.c.2), .tr true (T.int IntKind.i64 m.c.3), .tr true (T.int IntKind.i64 m.c.4), .tr true (T.int IntKind.i64 m.c.5), .tr true (T.int IntKind.i64 m.c.6), .tr true (.arr (11) (nx13_6) (fx13_6)), .tr true (.arr (1) (0 + m.3.length) (appF 0 (rowsT []) (plainF (atL rowI m.3))))])]⟩), (16, ⟨z0, [(false, [.tr true (T.int IntKind.i64 x16)])]⟩), (28, ⟨z0, [(true, [.tr true (T.int IntKind.i64 m.c.1), .tr true (T.int IntKind.i64 m.c.2), .tr true (T.int IntKind.i64 m.c.3), .tr true (T.int IntKind.i64 m.c.4), .tr true (T.int IntKind.i64 m.c.5), .tr true (T.int IntKind.i64 m.c.6)])]⟩), (32, ⟨z0, [(false, [.tr true (T.hole)])]⟩), (36, ⟨z0, [(false, [.tr true (T.hole)])]⟩), (40, ⟨z0, [(false, [(C.pt (Pt.ptr 5 0 [] 8 0 7))])]⟩), (44, ⟨z0, [(false, [.tr false (eL 1 rowI m.3)])]⟩), (48, ⟨z0, [(false, [.tr true (T.hole)])]⟩), (52, ⟨z0, [(true, [.tr true (T.int IntKind.i64 m.c.1), .tr true (T.int IntKind.i64 m.c.2), .tr true (T.int IntKind.i64 m.c.3), .tr true (T.int IntKind.i64 m.c.4), .tr true (T.int IntKind.i64 m.c.5), .tr true (T.int IntKind.i64 m.c.6), .tr true (T.hole), .tr true (T.hole)])]⟩)]
def ex_sModel_1_1 (m : Ml) (nx13_6 : Nat) (fx13_6 : Nat → Nat → T) (x16 : Int) : St := [(4, ⟨z0, [(false, [(C.pt (Pt.ptr 5 0 [] 8 0 0))])]⟩), (5, ⟨z0, [(true, [.tr true (T.int IntKind.i64 m.c.1), .tr true (T.int IntKind.i64 m.c.2), .tr true (T.int IntKind.i64 m.c.3), .tr true (T.int IntKind.i64 m.c.4), .tr true (T.int IntKind.i64 m.c.5), .tr true (T.int IntKind.i64 m.c.6), .tr false (eL 11 Rm.cs m.2), .tr false (eL 1 rowI m.3)])]⟩), (8, ⟨z0, [(false, [(C.pt (Pt.ptr 9 0 [] 8 0 0))])]⟩), (9, ⟨z0, [(true, [.tr true (T.int IntKind.i64 0), .tr true (T.int IntKind.i64 0), .tr true (T.int IntKind.i64 0), .tr true (T.int IntKind.i64 0), .tr true (T.int IntKind.i64 0), .tr true (T.int IntKind.i64 0), .tr true (.arr (11) (0) (fun x x_1 => T.hole)), .tr true (.arr (1) (0) (fun x x_1 => T.hole))])]⟩), (12, ⟨z0, [(false, [(C.pt (Pt.ptr 13 0 [] 8 0 0))])]⟩), (13, ⟨z0, [(true, [.tr true (T.int IntKind.i64 m.c.1), .tr true (T.int IntKind.i64 m.c.2), .tr true (T.int IntKind.i64 m.c.3), .tr true (T.int IntKind.i64 m.c.4), .tr true (T.int IntKind.i64 m.c.5), .tr true (T.int IntKind.i64 m.c.6), .tr true (.arr (11) (nx13_6) (fx13_6)), .tr true (.arr (1) (0 + m.3.length) (appF 0 (rowsT []) (plainF (atL rowI m.3))))])]⟩), (16, ⟨z0, [(false, [.tr true (T.int IntKind.i64 x16)])]⟩), (28, ⟨z0, [(true, [.tr true (T.int IntKind.i64 m.c.1), .tr true (T.int IntKind.i64 m.c.2), .tr true (T.int IntKind.i64 m.c.3), .tr true (T.int IntKind.i64 m.c.4), .tr true (T.int IntKind.i64 m.c.5), .tr true (T.int IntKind.i64 m.c.6)])]⟩), (32, ⟨z0, [(false, [.tr true (T.hole)])]⟩), (36, ⟨z0, [(false, [.tr true (T.hole)])]⟩), (40, ⟨z0, [(false, [(C.pt (Pt.ptr 5 0 [] 8 0 7))])]⟩), (44, ⟨z0, [(false, [.tr false (eL 1 rowI m.3)])]⟩), (48, ⟨z0, [(false, [.tr true (T.hole)])]⟩), (52, ⟨z0, [(true, [.tr true (T.int IntKind.i64 m.c.1), .tr true (T.int IntKind.i64 m.c.2), .tr true (T.int IntKind.i64 m.c.3), .tr true (T.int IntKind.i64 m.c.4), .tr true (T.int IntKind.i64 m.c.5), .tr true (T.int IntKind.i64 m.c.6), .tr true (T.hole), .tr true (T.hole)])]⟩), (72, ⟨z0, []⟩)]
theorem round_sModel_1 (m : Ml) (nx13_6 : Nat) (fx13_6 : Nat → Nat → T) (x16 : Int) (n : Nat) (K : Ex → St → Res) : roundAt prog (tabS [(i_sRoom, e_sRoom)]) kp_sModel F_sModel [1, 1, 0, 1, 0] n (st_sModel_1 m nx13_6 fx13_6 x16) K = (
 bif decide (x16 < (↑m.2.length : Int)) then
  gd (decide (0 ≤ x16) && (x16.toNat.blt m.2.length && true)) <|
  gd (T.isI IntKind.i64 (atL Rm.cs m.2 x16.toNat 0) && T.isI IntKind.i64 (atL Rm.cs m.2 x16.toNat 1) &&
                  T.isI IntKind.i64 (atL Rm.cs m.2 x16.toNat 2) &&
                T.isI IntKind.i64 (atL Rm.cs m.2 x16.toNat 3) &&
              ((atL Rm.cs m.2 x16.toNat 4).isArr && (atL Rm.cs m.2 x16.toNat 4).wd.beq 2) &&
            T.isI IntKind.i64 (atL Rm.cs m.2 x16.toNat 5) &&
          T.isI IntKind.i64 (atL Rm.cs m.2 x16.toNat 6) &&
        (atL Rm.cs m.2 x16.toNat 7).isB &&
      T.isI IntKind.i64 (atL Rm.cs m.2 x16.toNat 8) &&
    ((atL Rm.cs m.2 x16.toNat 9).isArr && (atL Rm.cs m.2 x16.toNat 9).wd.beq 1) &&
  ((atL Rm.cs m.2 x16.toNat 10).isArr && (atL Rm.cs m.2 x16.toNat 10).wd.beq 1)) <|
  entK ok_sRoom ea_sRoom (f_sRoom) [(0, true,
    [C.tr false (T.int IntKind.i64 (atL Rm.cs m.2 x16.toNat 0).toI),
      C.tr false (T.int IntKind.i64 (atL Rm.cs m.2 x16.toNat 1).toI),
      C.tr false (T.int IntKind.i64 (atL Rm.cs m.2 x16.toNat 2).toI),
      C.tr false (T.int IntKind.i64 (atL Rm.cs m.2 x16.toNat 3).toI),
      C.tr false (T.arr 2 (atL Rm.cs m.2 x16.toNat 4).ln (atL Rm.cs m.2 x16.toNat 4).fn),
      C.tr false (T.int IntKind.i64 (atL Rm.cs m.2 x16.toNat 5).toI),
      C.tr false (T.int IntKind.i64 (atL Rm.cs m.2 x16.toNat 6).toI),
      C.tr false (T.bool (atL Rm.cs m.2 x16.toNat 7).toB),
      C.tr false (T.int IntKind.i64 (atL Rm.cs m.2 x16.toNat 8).toI),
      C.tr false (T.arr 1 (atL Rm.cs m.2 x16.toNat 9).ln (atL Rm.cs m.2 x16.toNat 9).fn),
      C.tr false (T.arr 1 (atL Rm.cs m.2 x16.toNat 10).ln (atL Rm.cs m.2 x16.toNat 10).fn)])] fun (r1 : Rm) =>
  gd (r1.3.length.ble r1.3.length && true) <|
  gd (r1.8.length.ble r1.8.length && true) <|
  gd (r1.9.length.ble r1.9.length && true) <|
  gd (r1.3.length.ble r1.3.length && true) <|
  gd (r1.8.length.ble r1.8.length && true) <|
  gd (r1.9.length.ble r1.9.length && true) <|
  gd (nx13_6.ble nx13_6 && true) <|
  gd (((nx13_6 + 1) * 136).ble 70368744177664 && (nx13_6 + 1).ble 70368744177664) <|
  gd ((nx13_6 + 1).ble (nx13_6 + 1) && true) <|
  K .normal (st_sModel_1 m (nx13_6 + 1) (appF nx13_6 fx13_6
  (rowsT
    [[T.int IntKind.i64 r1.h.1, T.int IntKind.i64 r1.h.2, T.int IntKind.i64 r1.up.1,
        T.int IntKind.i64 r1.up.2, T.arr 2 r1.3.length (eL 2 Hd.cs r1.3).fn,
        T.int IntKind.i64 r1.4, T.int IntKind.i64 r1.5, T.bool r1.6, T.int IntKind.i64 r1.7,
        T.arr 1 r1.8.length (eL 1 Sf.cs r1.8).fn, T.arr 1 r1.9.length (eL 1 rowI r1.9).fn]])) (IntKind.i64.wrap (x16 + 1)))
 else
 K (.exit 0) (ex_sModel_1_1 m nx13_6 fx13_6 x16)) := by kernel_rfl
theorem post_sModel_1_1 (m : Ml) (nx13_6 : Nat) (fx13_6 : Nat → Nat → T) (x16 : Int) (n : Nat) : contAt prog (tabS [(i_sRoom, e_sRoom)]) kp_sModel F_sModel ts_sModel [1, 1, 0, 1, 0] [] n (.exit 0) (ex_sModel_1_1 m nx13_6 fx13_6 x16) = (
 gd (nx13_6.ble nx13_6 && true) <|
 gd ((0 + m.3.length).ble (0 + m.3.length) && true) <|
 gd (nx13_6.ble nx13_6 && true) <|
 gd ((0 + m.3.length).ble (0 + m.3.length) && true) <|
 some ([(true, [.tr true (T.int IntKind.i64 m.c.1), .tr true (T.int IntKind.i64 m.c.2), .tr true (T.int IntKind.i64 m.c.3), .tr true (T.int IntKind.i64 m.c.4), .tr true (T.int IntKind.i64 m.c.5), .tr true (T.int IntKind.i64 m.c.6), .tr true (.arr (11) (nx13_6) (fx13_6)), .tr true (.arr (1) (0 + m.3.length) (appF 0 (rowsT []) (plainF (atL rowI m.3))))])], [(false, [])])) := by kernel_rfl
theorem pre_sModel (m : Ml) (n : Nat) : body prog (tabS [(i_sRoom, e_sRoom)]) kp_sModel n F_sModel [aR m.cs] = (
 gd (((0 + m.3.length) * 8).ble 70368744177664 && (0 + m.3.length).ble 70368744177664) <|
 gd ((0 + m.3.length).ble (0 + m.3.length) && true) <|
 gd ((0 + m.3.length).ble (0 + m.3.length) && true) <|
 loopAt prog (tabS [(i_sRoom, e_sRoom)]) kp_sModel F_sModel [1, 1, 0, 1, 0] n n (st_sModel_1 m (0) (rowsT []) (0)) (contAt prog (tabS [(i_sRoom, e_sRoom)]) kp_sModel F_sModel ts_sModel [1, 1, 0, 1, 0] [] n)) := by kernel_rfl
end Go.Mach.F
namespace Go.Mach.F
open Go Go.Mach Go.Proofs.Try
theorem body_iModel (m : Ml) (h : ok_iModel m) : body prog (tabS [(i_iRoom, e_iRoom), (i_clI, e_clI)]) kp_iModel (m.rooms.length + 1) F_iModel (ea_iModel m) = some (erR 1 (f_iModel m).cs) := by
  have hlm := lm
  obtain ⟨h0, h2⟩ : ok_RmS m.rooms ∧ ok_LI m.log := h
  have hl : m.rooms.length ≤ LM := h0.1
  have ht : m.log.length ≤ LM := h2
  unfold ea_iModel f_iModel
  rw [pre_iModel]
  have c1 : ok_clI m.log := h2
  simp only [eL_T, Ml.cs]
  rw [entK_of (dm_clI c1) (iv_clI c1)]
  simp only [d_clI, lt_d, ge0_d, Int.toNat_natCast, blt_d, ble_self, beq_self, decide_true, cond_true, Bool.and_self, Bool.and_true, Bool.true_and, gd_true, Nat.zero_add, List.getD_cons_zero, List.getD_cons_succ, isI_int, toI_int, isB_bool, toB_bool, eL_T, arr_ln, arr_fn, arr_wd, arr_is, arr_get, ble_d, Nat.le_refl]
  have hst : st_iModel_1 m m.log 0 (fun _ _ => T.hole) 0 = (fun i : Nat => st_iModel_1 m m.log i (atL Rm.cs (m.rooms.take i)) (i : Nat)) 0 := by
    rfl
  rw [hst, forLoop m.rooms.length (fun i : Nat => st_iModel_1 m m.log i (atL Rm.cs (m.rooms.take i)) (i : Nat)) (ex_iModel_1_1 m m.log m.rooms.length (atL Rm.cs m.rooms) m.rooms.length) 0 (fun i K hi => ?_) (fun K => ?_) _ (Nat.le_refl _)]
  · rw [post_iModel_1_1]
    have e2 : appF 0 (rowsT []) (plainF (atL rowI m.log)) = atL rowI m.log := by rw [plain_I, app0]
    simp only [lt_d, ge0_d, Int.toNat_natCast, blt_d, ble_self, beq_self, decide_true, cond_true, Bool.and_self, Bool.and_true, Bool.true_and, gd_true, Nat.zero_add, List.getD_cons_zero, List.getD_cons_succ, isI_int, toI_int, isB_bool, toB_bool, eL_T, arr_ln, arr_fn, arr_wd, arr_is, arr_get, ble_d, Nat.le_refl, e2]
    rfl
  · have hx := List.getElem?_eq_getElem hi
    obtain ⟨x, hxe⟩ : ∃ x, x = m.rooms[i] := ⟨_, rfl⟩
    rw [← hxe] at hx
    have c0 : ok_iRoom x := h0.2 _ (List.mem_of_getElem? hx)
    rw [round_iModel_1, ← take_app Rm.cs hx]
    have hs : (i + 1) * 136 ≤ 70368744177664 := by omega
    have hs2 : i + 1 ≤ 70368744177664 := by omega
    simp (disch := omega) only [lt_d, ge0_d, Int.toNat_natCast, blt_d, ble_self, beq_self, decide_true, cond_true, Bool.and_self, Bool.and_true, Bool.true_and, gd_true, Nat.zero_add, List.getD_cons_zero, List.getD_cons_succ, isI_int, toI_int, isB_bool, toB_bool, eL_T, arr_ln, arr_fn, arr_wd, arr_is, arr_get, eL_T, hi, atL_of hx, Rm.cs, wrapS]
    rw [entK_of (dm_iRoom c0) (iv_iRoom c0)]
    simp only [lt_d, ge0_d, Int.toNat_natCast, blt_d, ble_self, beq_self, decide_true, cond_true, Bool.and_self, Bool.and_true, Bool.true_and, gd_true, Nat.zero_add, List.getD_cons_zero, List.getD_cons_succ, isI_int, toI_int, isB_bool, toB_bool, eL_T, arr_ln, arr_fn, arr_wd, arr_is, arr_get, eL_T, ble_d, Nat.le_refl, hs, hs2, d_iRoom]
  · rw [round_iModel_1]
    simp only [lt_d, Nat.lt_irrefl, decide_false, cond_false, List.take_length]
theorem s_iModel : EntOk prog i_iModel e_iModel := ent_ok ea_iModel_inj fun x hx =>
  body_sound (φ := (tabS [(i_iRoom, e_iRoom), (i_clI, e_clI)])) (tabS_cons s_iRoom (tabS_cons s_clI tabS_nil)) mixed (kp := kp_iModel) (n := x.rooms.length + 1) func110 (c := bodyOf F_iModel) (by kernel_rfl) (body_iModel x hx) (name_ok (by kernel_rfl))
theorem body_sModel (m : Ml) (h : ok_sModel m) : body prog (tabS [(i_sRoom, e_sRoom)]) kp_sModel (m.rooms.length + 1) F_sModel (ea_sModel m) = some (erR 1 (f_sModel m).cs) := by
  have hlm := lm
  obtain ⟨h0, h2⟩ : ok_RmS m.rooms ∧ ok_LI m.log := h
  have hl : m.rooms.length ≤ LM := h0.1
  have ht : m.log.length ≤ LM := h2
  unfold ea_sModel f_sModel
  rw [pre_sModel]
  have q3 : m.log.length * 8 ≤ 70368744177664 := by omega
  have q4 : m.log.length ≤ 70368744177664 := by omega
  simp only [lt_d, ge0_d, Int.toNat_natCast, blt_d, ble_self, beq_self, decide_true, cond_true, Bool.and_self, Bool.and_true, Bool.true_and, gd_true, Nat.zero_add, List.getD_cons_zero, List.getD_cons_succ, isI_int, toI_int, isB_bool, toB_bool, eL_T, arr_ln, arr_fn, arr_wd, arr_is, arr_get, ble_d, Nat.le_refl, q3, q4]
  have hst : st_sModel_1 m 0 (rowsT []) 0 = (fun i : Nat => st_sModel_1 m i (atL Rm.cs (m.rooms.take i)) (i : Nat)) 0 := by
    rw [rowsT0 Rm.cs]; rfl
  rw [hst, forLoop m.rooms.length (fun i : Nat => st_sModel_1 m i (atL Rm.cs (m.rooms.take i)) (i : Nat)) (ex_sModel_1_1 m m.rooms.length (atL Rm.cs m.rooms) m.rooms.length) 0 (fun i K hi => ?_) (fun K => ?_) _ (Nat.le_refl _)]
  · rw [post_sModel_1_1]
    have e2 : appF 0 (rowsT []) (plainF (atL rowI m.log)) = atL rowI m.log := by rw [plain_I, app0]
    simp only [lt_d, ge0_d, Int.toNat_natCast, blt_d, ble_self, beq_self, decide_true, cond_true, Bool.and_self, Bool.and_true, Bool.true_and, gd_true, Nat.zero_add, List.getD_cons_zero, List.getD_cons_succ, isI_int, toI_int, isB_bool, toB_bool, eL_T, arr_ln, arr_fn, arr_wd, arr_is, arr_get, ble_d, Nat.le_refl, e2]
    rfl
  · have hx := List.getElem?_eq_getElem hi
    obtain ⟨x, hxe⟩ : ∃ x, x = m.rooms[i] := ⟨_, rfl⟩
    rw [← hxe] at hx
    have c0 : ok_sRoom x := h0.2 _ (List.mem_of_getElem? hx)
    rw [round_sModel_1, ← take_app Rm.cs hx]
    have hs : (i + 1) * 136 ≤ 70368744177664 := by omega
    have hs2 : i + 1 ≤ 70368744177664 := by omega
    simp (disch := omega) only [lt_d, ge0_d, Int.toNat_natCast, blt_d, ble_self, beq_self, decide_true, cond_true, Bool.and_self, Bool.and_true, Bool.true_and, gd_true, Nat.zero_add, List.getD_cons_zero, List.getD_cons_succ, isI_int, toI_int, isB_bool, toB_bool, eL_T, arr_ln, arr_fn, arr_wd, arr_is, arr_get, eL_T, hi, atL_of hx, Rm.cs, wrapS]
    rw [entK_of (dm_sRoom c0) (iv_sRoom c0)]
    simp only [lt_d, ge0_d, Int.toNat_natCast, blt_d, ble_self, beq_self, decide_true, cond_true, Bool.and_self, Bool.and_true, Bool.true_and, gd_true, Nat.zero_add, List.getD_cons_zero, List.getD_cons_succ, isI_int, toI_int, isB_bool, toB_bool, eL_T, arr_ln, arr_fn, arr_wd, arr_is, arr_get, eL_T, ble_d, Nat.le_refl, hs, hs2, d_sRoom]
  · rw [round_sModel_1]
    simp only [lt_d, Nat.lt_irrefl, decide_false, cond_false, List.take_length]
theorem s_sModel : EntOk prog i_sModel e_sModel := ent_ok ea_sModel_inj fun x hx =>
  body_sound (φ := (tabS [(i_sRoom, e_sRoom)])) (tabS_cons s_sRoom tabS_nil) mixed (kp := kp_sModel) (n := x.rooms.length + 1) func107 (c := bodyOf F_sModel) (by kernel_rfl) (body_sModel x hx) (name_ok (by kernel_rfl))
end Go.Mach.F
namespace Go.Mach.F
open Go Go.Mach Go.Proofs.Try
--=set_option maxRecDepth 100000
def i_within : Nat := 111
noncomputable abbrev F_within : Func := f111
def kp_within : List (Nat × List Nat) := [(0, [0, 4, 8, 44, 48, 52]), (1, [24])]
noncomputable def e_within : Ent := inl [] prog (tabS []) kp_within 0 F_within
theorem s_within : EntOk prog i_within e_within := inl_ok tabS_nil mixed (c := bodyOf F_within) func111 (by kernel_rfl) (name_ok (by kernel_rfl))
end Go.Mach.F
namespace Go.Mach.F
open Go Go.Mach Go.Proofs.Try
--=set_option maxRecDepth 100000
def i_l1In : Nat := 108
noncomputable abbrev F_l1In : Func := f108
def kp_l1In : List (Nat × List Nat) := [(0, [0, 4, 8, 44, 48, 52]), (1, [24])]
noncomputable def e_l1In : Ent := inl [] prog (tabS []) kp_l1In 0 F_l1In
theorem s_l1In : EntOk prog i_l1In e_l1In := inl_ok tabS_nil mixed (c := bodyOf F_l1In) func108 (by kernel_rfl) (name_ok (by kernel_rfl))
end Go.Mach.F
namespace Go.Mach.F
open Go Go.Mach Go.Proofs.Try
theorem setF_setF (j k : Nat) (u v : T) (f : Nat → Nat → T) : setF j k v (setF j k u f) = setF j k v f := by
  funext j' k'
  simp only [setF_d]
  by_cases h : j' = j ∧ k' = k
  · rw [if_pos h, if_pos h]
  · rw [if_neg h, if_neg h, if_neg h]
theorem setF_list {α : Type} {row : α → List T} {l : List α} {j k : Nat} {v : T} {x y : α} (hx : l[j]? = some x) (hy : row y = (row x).set k v) (hk : k < (row x).length) : setF j k v (atL row l) = atL row (l.set j y) := by
  refine set_atL (List.getElem?_eq_some_iff.1 hx).1 fun j' k' => ?_
  rw [setF_d, hy]
  by_cases h : j' = j
  · subst h
    by_cases h2 : k' = k
    · subst h2
      rw [if_pos ⟨rfl, rfl⟩, if_pos rfl, List.getD_eq_getElem?_getD, List.getElem?_set_self hk]
      rfl
    · rw [if_neg fun e => h2 e.2, if_pos rfl, atL_of hx, List.getD_eq_getElem?_getD, List.getD_eq_getElem?_getD, List.getElem?_set_ne (Ne.symm h2)]
  · rw [if_neg fun e => h e.1, if_neg h]
theorem appF_app {α : Type} (row : α → List T) (l l' : List α) : appF l.length (atL row l) (atL row l') = atL row (l ++ l') := by
  funext j k
  unfold appF
  rw [blt_d, Bool.cond_decide]
  by_cases h : j < l.length
  · rw [if_pos h]
    unfold atL
    rw [List.getElem?_append_left h]
  · rw [if_neg h]
    unfold atL
    rw [List.getElem?_append_right (by omega)]
theorem rows1 {α : Type} (row : α → List T) (x : α) : rowsT [row x] = atL row [x] := by
  funext j k
  cases j with
  | zero => rfl
  | succ j => simp [rowsT, atL]
end Go.Mach.F
namespace Go.Mach.F
open Go Go.Mach Go.Proofs.Try
--=set_option maxRecDepth 100000
def tkn (l : List Rm) : Int := l.foldl (fun n r => IntKind.i64.wrap (n + r.chunks)) 0
def inR (n lo hi : Int) : Bool := decide (lo ≤ n) && decide (n ≤ hi)
def isAl (y : Int) : Bool := decide (y = 1) || (decide (y = 2) || decide (y = 4))
def aup (x y : Int) : Int := bif inR x 0 1000000000 && isAl y then IntKind.i64.wrap (IntKind.i64.wrap (Int.tdiv (IntKind.i64.wrap (IntKind.i64.wrap (x + y) - 1)) y) * y) else 0
def cdv (x y : Int) : Int := bif inR x 0 1000000000 && inR y 1 1000000000 then IntKind.i64.wrap (Int.tdiv (IntKind.i64.wrap (IntKind.i64.wrap (x + y) - 1)) y) else 0
def zer (x : Int) : List UInt8 := bif inR x 0 4096 then List.replicate x.toNat 0 else []
def i_iisAl : Nat := 169
noncomputable abbrev F_iisAl : Func := f169
def kp_iisAl : List (Nat × List Nat) := [(0, [0, 24, 28, 40, 44]), (1, [8])]
noncomputable def e_iisAl : Ent := inl [] prog (tabS []) kp_iisAl 0 F_iisAl
theorem s_iisAl : EntOk prog i_iisAl e_iisAl := inl_ok tabS_nil mixed (c := bodyOf F_iisAl) func169 (by kernel_rfl) (name_ok (by kernel_rfl))
def i_sisAl : Nat := 124
noncomputable abbrev F_sisAl : Func := f124
def kp_sisAl : List (Nat × List Nat) := [(0, [0, 24, 28, 40, 44]), (1, [8])]
noncomputable def e_sisAl : Ent := inl [] prog (tabS []) kp_sisAl 0 F_sisAl
theorem s_sisAl : EntOk prog i_sisAl e_sisAl := inl_ok tabS_nil mixed (c := bodyOf F_sisAl) func124 (by kernel_rfl) (name_ok (by kernel_rfl))
def ok_iTakenBy (x : Ml) : Prop := x.rooms.length ≤ LM
def ea_iTakenBy (x : Ml) : List Arg := [aR x.cs]
def f_iTakenBy (x : Ml) : Int := tkn x.rooms
noncomputable def e_iTakenBy : Ent := ent [] ok_iTakenBy ea_iTakenBy (erI 1) f_iTakenBy
theorem ea_iTakenBy_inj (x y : Ml) (h : ea_iTakenBy x = ea_iTakenBy y) : x = y := by
  simp only [ea_iTakenBy, List.cons.injEq, and_true, true_and] at h
  exact Ml.cs_ext (aR_inj h)
theorem dm_iTakenBy {m : Ml} (h : ok_iTakenBy m) : dom ok_iTakenBy ea_iTakenBy [(0, true, [C.tr false (T.int IntKind.i64 m.c.chunks), C.tr false (T.int IntKind.i64 m.c.size), C.tr false (T.int IntKind.i64 m.c.slots), C.tr false (T.int IntKind.i64 m.c.tax), C.tr false (T.int IntKind.i64 m.c.slice), C.tr false (T.int IntKind.i64 m.c.gens), C.tr false (T.arr 11 m.rooms.length (atL Rm.cs m.rooms)), C.tr false (T.arr 1 m.log.length (atL rowI m.log))])] = true := dom_ea (ea := ea_iTakenBy) (x := m) h
theorem iv_iTakenBy {m : Ml} (h : ok_iTakenBy m) : inv ok_iTakenBy ea_iTakenBy [(0, true, [C.tr false (T.int IntKind.i64 m.c.chunks), C.tr false (T.int IntKind.i64 m.c.size), C.tr false (T.int IntKind.i64 m.c.slots), C.tr false (T.int IntKind.i64 m.c.tax), C.tr false (T.int IntKind.i64 m.c.slice), C.tr false (T.int IntKind.i64 m.c.gens), C.tr false (T.arr 11 m.rooms.length (atL Rm.cs m.rooms)), C.tr false (T.arr 1 m.log.length (atL rowI m.log))])] = m := inv_ea ea_iTakenBy_inj (x := m) h
theorem d_iTakenBy (m : Ml) : f_iTakenBy m = tkn m.rooms := rfl
def i_iTakenBy : Nat := 170
noncomputable abbrev F_iTakenBy : Func := f170
def kp_iTakenBy : List (Nat × List Nat) := [(0, [4, 5]), (1, [4, 5, 12]), (2, [4, 5, 12, 24, 28, 32, 36]), (3, [4, 5, 12, 24, 28, 32, 36, 40]), (4, [4, 5, 12, 20, 21, 24, 28, 32, 36, 44, 48]), (5, [4, 5, 12, 24, 28, 32, 36]), (6, [4, 5, 12, 24, 28, 32, 36]), (7, [8])]
def ts_iTakenBy : List Nat := [0]
def st_iTakenBy_1 (m : Ml) (x12 : Int) (x36 : Int) : St := [(4, ⟨z0, [(false, [(C.pt (Pt.ptr 5 0 [] 8 0 0))])]⟩), (5, ⟨z0, [(true, [.tr true (T.int IntKind.i64 m.c.1), .tr true (T.int IntKind.i64 m.c.2), .tr true (T.int IntKind.i64 m.c.3), .tr true (T.int IntKind.i64 m.c.4), .tr true (T.int IntKind.i64 m.c.5), .tr true (T.int IntKind.i64 m.c.6), .tr false (eL 11 Rm.cs m.2), .tr false (eL 1 rowI m.3)])]⟩), (12, ⟨z0, [(false, [.tr true (T.int IntKind.i64 x12)])]⟩), (24, ⟨z0, [(false, [(C.pt (Pt.ptr 5 0 [] 8 0 6))])]⟩), (28, ⟨z0, [(false, [.tr false (eL 11 Rm.cs m.2)])]⟩), (32, ⟨z0, [(false, [.tr true (T.int IntKind.i64 (↑m.2.length : Int))])]⟩), (36, ⟨z0, [(false, [.tr true (T.int IntKind.i64 x36)])]⟩)]
def ex_iTakenBy_1_1 (m : Ml) (x12 : Int) (x36 : Int) : St := [(4, ⟨z0, [(false, [(C.pt (Pt.ptr 5 0 [] 8 0 0))])]⟩), (5, ⟨z0, [(true, [.tr true (T.int IntKind.i64 m.c.1), .tr true (T.int IntKind.i64 m.c.2), .tr true (T.int IntKind.i64 m.c.3), .tr true (T.int IntKind.i64 m.c.4), .tr true (T.int IntKind.i64 m.c.5), .tr true (T.int IntKind.i64 m.c.6), .tr false (eL 11 Rm.cs m.2), .tr false (eL 1 rowI m.3)])]⟩), (12, ⟨z0, [(false, [.tr true (T.int IntKind.i64 x12)])]⟩), (24, ⟨z0, [(false, [(C.pt (Pt.ptr 5 0 [] 8 0 6))])]⟩), (28, ⟨z0, [(false, [.tr false (eL 11 Rm.cs m.2)])]⟩), (32, ⟨z0, [(false, [.tr true (T.int IntKind.i64 (↑m.2.length : Int))])]⟩), (36, ⟨z0, [(false, [.tr true (T.int IntKind.i64 x36)])]⟩), (40, ⟨z0, []⟩)]
theorem round_iTakenBy_1 (m : Ml) (x12 : Int) (x36 : Int) (n : Nat) (K : Ex → St → Res) : roundAt prog (tabS []) kp_iTakenBy F_iTakenBy [1, 1, 0, 1, 0] n (st_iTakenBy_1 m x12 x36) K = (
 bif decide (x36 < (↑m.2.length : Int)) then
  gd (decide (0 ≤ x36) && (x36.toNat.blt m.2.length && true)) <|
  gd (T.isI IntKind.i64 (atL Rm.cs m.2 x36.toNat 0) && T.isI IntKind.i64 (atL Rm.cs m.2 x36.toNat 1) &&
                  T.isI IntKind.i64 (atL Rm.cs m.2 x36.toNat 2) &&
                T.isI IntKind.i64 (atL Rm.cs m.2 x36.toNat 3) &&
              ((atL Rm.cs m.2 x36.toNat 4).isArr && (atL Rm.cs m.2 x36.toNat 4).wd.beq 2) &&
            T.isI IntKind.i64 (atL Rm.cs m.2 x36.toNat 5) &&
          T.isI IntKind.i64 (atL Rm.cs m.2 x36.toNat 6) &&
        (atL Rm.cs m.2 x36.toNat 7).isB &&
      T.isI IntKind.i64 (atL Rm.cs m.2 x36.toNat 8) &&
    ((atL Rm.cs m.2 x36.toNat 9).isArr && (atL Rm.cs m.2 x36.toNat 9).wd.beq 1) &&
  ((atL Rm.cs m.2 x36.toNat 10).isArr && (atL Rm.cs m.2 x36.toNat 10).wd.beq 1)) <|
  K .normal (st_iTakenBy_1 m (IntKind.i64.wrap (x12 + (atL Rm.cs m.2 x36.toNat 6).toI)) (IntKind.i64.wrap (x36 + 1)))
 else
 K (.exit 0) (ex_iTakenBy_1_1 m x12 x36)) := by kernel_rfl
theorem post_iTakenBy_1_1 (m : Ml) (x12 : Int) (x36 : Int) (n : Nat) : contAt prog (tabS []) kp_iTakenBy F_iTakenBy ts_iTakenBy [1, 1, 0, 1, 0] [] n (.exit 0) (ex_iTakenBy_1_1 m x12 x36) = (
 some ([(false, [.tr true (T.int IntKind.i64 x12)])], [(false, [])])) := by kernel_rfl
theorem pre_iTakenBy (m : Ml) (n : Nat) : body prog (tabS []) kp_iTakenBy n F_iTakenBy [aR m.cs] = (
 loopAt prog (tabS []) kp_iTakenBy F_iTakenBy [1, 1, 0, 1, 0] n n (st_iTakenBy_1 m (0) (0)) (contAt prog (tabS []) kp_iTakenBy F_iTakenBy ts_iTakenBy [1, 1, 0, 1, 0] [] n)) := by kernel_rfl
def ok_iAlignUp (x : Int × Int) : Prop := True
def ea_iAlignUp (x : Int × Int) : List Arg := [aI x.1, aI x.2]
def f_iAlignUp (x : Int × Int) : Int := aup x.1 x.2
noncomputable def e_iAlignUp : Ent := ent [] ok_iAlignUp ea_iAlignUp (erI 2) f_iAlignUp
theorem ea_iAlignUp_inj (x y : Int × Int) (h : ea_iAlignUp x = ea_iAlignUp y) : x = y := by
  obtain ⟨x1, y1⟩ := x
  obtain ⟨x2, y2⟩ := y
  simp only [ea_iAlignUp, List.cons.injEq, and_true, true_and] at h
  obtain ⟨e0, e1⟩ := h
  obtain rfl := aI_inj e0
  obtain rfl := aI_inj e1
  rfl
theorem dm_iAlignUp {x : Int} {y : Int} (h : ok_iAlignUp (x, y)) : dom ok_iAlignUp ea_iAlignUp [(0, false, [C.tr false (T.int IntKind.i64 x)]), (0, false, [C.tr false (T.int IntKind.i64 y)])] = true := dom_ea (ea := ea_iAlignUp) (x := (x, y)) h
theorem iv_iAlignUp {x : Int} {y : Int} (h : ok_iAlignUp (x, y)) : inv ok_iAlignUp ea_iAlignUp [(0, false, [C.tr false (T.int IntKind.i64 x)]), (0, false, [C.tr false (T.int IntKind.i64 y)])] = (x, y) := inv_ea ea_iAlignUp_inj (x := (x, y)) h
theorem d_iAlignUp (x : Int) (y : Int) : f_iAlignUp (x, y) = aup x y := rfl
def i_iAlignUp : Nat := 134
noncomputable abbrev F_iAlignUp : Func := f134
def kp_iAlignUp : List (Nat × List Nat) := [(0, [0, 4, 36, 40, 44]), (1, [0, 4, 48]), (2, [16]), (3, [16])]
theorem pre_iAlignUp (x : Int) (y : Int) (n : Nat) : body prog (tabS [(i_within, e_within), (i_iisAl, e_iisAl)]) kp_iAlignUp n F_iAlignUp [aI x, aI y] = (
 bif decide (0 ≤ x) then
  bif !decide (x ≤ 1000000000) then
   some ([(false, [.tr true (T.int IntKind.i64 0)])], [(false, []), (false, [])])
  else
  bif y == 1 then
   gd (!y == 0) <|
   some ([(false, [.tr true (T.int IntKind.i64
  (IntKind.i64.wrap (IntKind.i64.wrap ((IntKind.i64.wrap (IntKind.i64.wrap (x + y) - 1)).tdiv y) * y)))])], [(false, []), (false, [])])
  else
  bif y == 2 then
   gd (!y == 0) <|
   some ([(false, [.tr true (T.int IntKind.i64
  (IntKind.i64.wrap (IntKind.i64.wrap ((IntKind.i64.wrap (IntKind.i64.wrap (x + y) - 1)).tdiv y) * y)))])], [(false, []), (false, [])])
  else
  bif !y == 4 then
   some ([(false, [.tr true (T.int IntKind.i64 0)])], [(false, []), (false, [])])
  else
  gd (!y == 0) <|
  some ([(false, [.tr true (T.int IntKind.i64
  (IntKind.i64.wrap (IntKind.i64.wrap ((IntKind.i64.wrap (IntKind.i64.wrap (x + y) - 1)).tdiv y) * y)))])], [(false, []), (false, [])])
 else
 some ([(false, [.tr true (T.int IntKind.i64 0)])], [(false, []), (false, [])])) := by kernel_rfl
def ok_iCeilDiv (x : Int × Int) : Prop := True
def ea_iCeilDiv (x : Int × Int) : List Arg := [aI x.1, aI x.2]
def f_iCeilDiv (x : Int × Int) : Int := cdv x.1 x.2
noncomputable def e_iCeilDiv : Ent := ent [] ok_iCeilDiv ea_iCeilDiv (erI 2) f_iCeilDiv
theorem ea_iCeilDiv_inj (x y : Int × Int) (h : ea_iCeilDiv x = ea_iCeilDiv y) : x = y := by
  obtain ⟨x1, y1⟩ := x
  obtain ⟨x2, y2⟩ := y
  simp only [ea_iCeilDiv, List.cons.injEq, and_true, true_and] at h
  obtain ⟨e0, e1⟩ := h
  obtain rfl := aI_inj e0
  obtain rfl := aI_inj e1
  rfl
theorem dm_iCeilDiv {x : Int} {y : Int} (h : ok_iCeilDiv (x, y)) : dom ok_iCeilDiv ea_iCeilDiv [(0, false, [C.tr false (T.int IntKind.i64 x)]), (0, false, [C.tr false (T.int IntKind.i64 y)])] = true := dom_ea (ea := ea_iCeilDiv) (x := (x, y)) h
theorem iv_iCeilDiv {x : Int} {y : Int} (h : ok_iCeilDiv (x, y)) : inv ok_iCeilDiv ea_iCeilDiv [(0, false, [C.tr false (T.int IntKind.i64 x)]), (0, false, [C.tr false (T.int IntKind.i64 y)])] = (x, y) := inv_ea ea_iCeilDiv_inj (x := (x, y)) h
theorem d_iCeilDiv (x : Int) (y : Int) : f_iCeilDiv (x, y) = cdv x y := rfl
def i_iCeilDiv : Nat := 103
noncomputable abbrev F_iCeilDiv : Func := f103
def kp_iCeilDiv : List (Nat × List Nat) := [(0, [0, 4, 36, 40, 44]), (1, [0, 4, 48]), (2, [16]), (3, [16])]
theorem pre_iCeilDiv (x : Int) (y : Int) (n : Nat) : body prog (tabS [(i_within, e_within)]) kp_iCeilDiv n F_iCeilDiv [aI x, aI y] = (
 bif decide (0 ≤ x) then
  bif !decide (x ≤ 1000000000) then
   some ([(false, [.tr true (T.int IntKind.i64 0)])], [(false, []), (false, [])])
  else
  bif decide (1 ≤ y) then
   bif !decide (y ≤ 1000000000) then
    some ([(false, [.tr true (T.int IntKind.i64 0)])], [(false, []), (false, [])])
   else
   gd (!y == 0) <|
   some ([(false, [.tr true (T.int IntKind.i64 (IntKind.i64.wrap ((IntKind.i64.wrap (IntKind.i64.wrap (x + y) - 1)).tdiv y)))])], [(false, []), (false, [])])
  else
  some ([(false, [.tr true (T.int IntKind.i64 0)])], [(false, []), (false, [])])
 else
 some ([(false, [.tr true (T.int IntKind.i64 0)])], [(false, []), (false, [])])) := by kernel_rfl
def ok_sTakenBy (x : Ml) : Prop := x.rooms.length ≤ LM
def ea_sTakenBy (x : Ml) : List Arg := [aR x.cs]
def f_sTakenBy (x : Ml) : Int := tkn x.rooms
noncomputable def e_sTakenBy : Ent := ent [] ok_sTakenBy ea_sTakenBy (erI 1) f_sTakenBy
theorem ea_sTakenBy_inj (x y : Ml) (h : ea_sTakenBy x = ea_sTakenBy y) : x = y := by
  simp only [ea_sTakenBy, List.cons.injEq, and_true, true_and] at h
  exact Ml.cs_ext (aR_inj h)
theorem dm_sTakenBy {m : Ml} (h : ok_sTakenBy m) : dom ok_sTakenBy ea_sTakenBy [(0, true, [C.tr false (T.int IntKind.i64 m.c.chunks), C.tr false (T.int IntKind.i64 m.c.size), C.tr false (T.int IntKind.i64 m.c.slots), C.tr false (T.int IntKind.i64 m.c.tax), C.tr false (T.int IntKind.i64 m.c.slice), C.tr false (T.int IntKind.i64 m.c.gens), C.tr false (T.arr 11 m.rooms.length (atL Rm.cs m.rooms)), C.tr false (T.arr 1 m.log.length (atL rowI m.log))])] = true := dom_ea (ea := ea_sTakenBy) (x := m) h
theorem iv_sTakenBy {m : Ml} (h : ok_sTakenBy m) : inv ok_sTakenBy ea_sTakenBy [(0, true, [C.tr false (T.int IntKind.i64 m.c.chunks), C.tr false (T.int IntKind.i64 m.c.size), C.tr false (T.int IntKind.i64 m.c.slots), C.tr false (T.int IntKind.i64 m.c.tax), C.tr false (T.int IntKind.i64 m.c.slice), C.tr false (T.int IntKind.i64 m.c.gens), C.tr false (T.arr 11 m.rooms.length (atL Rm.cs m.rooms)), C.tr false (T.arr 1 m.log.length (atL rowI m.log))])] = m := inv_ea ea_sTakenBy_inj (x := m) h
theorem d_sTakenBy (m : Ml) : f_sTakenBy m = tkn m.rooms := rfl
def i_sTakenBy : Nat := 128
noncomputable abbrev F_sTakenBy : Func := f128
def kp_sTakenBy : List (Nat × List Nat) := [(0, [4, 5]), (1, [4, 5, 12]), (2, [4, 5, 12, 16]), (3, [4, 5, 12, 16, 36]), (4, [4, 5, 12, 16]), (5, [4, 5, 12, 16]), (6, [8])]
def ts_sTakenBy : List Nat := [0]
def st_sTakenBy_1 (m : Ml) (x12 : Int) (x16 : Int) : St := [(4, ⟨z0, [(false, [(C.pt (Pt.ptr 5 0 [] 8 0 0))])]⟩), (5, ⟨z0, [(true, [.tr true (T.int IntKind.i64 m.c.1), .tr true (T.int IntKind.i64 m.c.2), .tr true (T.int IntKind.i64 m.c.3), .tr true (T.int IntKind.i64 m.c.4), .tr true (T.int IntKind.i64 m.c.5), .tr true (T.int IntKind.i64 m.c.6), .tr false (eL 11 Rm.cs m.2), .tr false (eL 1 rowI m.3)])]⟩), (12, ⟨z0, [(false, [.tr true (T.int IntKind.i64 x12)])]⟩), (16, ⟨z0, [(false, [.tr true (T.int IntKind.i64 x16)])]⟩)]
def ex_sTakenBy_1_1 (m : Ml) (x12 : Int) (x16 : Int) : St := [(4, ⟨z0, [(false, [(C.pt (Pt.ptr 5 0 [] 8 0 0))])]⟩), (5, ⟨z0, [(true, [.tr true (T.int IntKind.i64 m.c.1), .tr true (T.int IntKind.i64 m.c.2), .tr true (T.int IntKind.i64 m.c.3), .tr true (T.int IntKind.i64 m.c.4), .tr true (T.int IntKind.i64 m.c.5), .tr true (T.int IntKind.i64 m.c.6), .tr false (eL 11 Rm.cs m.2), .tr false (eL 1 rowI m.3)])]⟩), (12, ⟨z0, [(false, [.tr true (T.int IntKind.i64 x12)])]⟩), (16, ⟨z0, [(false, [.tr true (T.int IntKind.i64 x16)])]⟩), (36, ⟨z0, []⟩)]
theorem round_sTakenBy_1 (m : Ml) (x12 : Int) (x16 : Int) (n : Nat) (K : Ex → St → Res) : roundAt prog (tabS []) kp_sTakenBy F_sTakenBy [1, 1, 0, 1, 0] n (st_sTakenBy_1 m x12 x16) K = (
 bif decide (x16 < (↑m.2.length : Int)) then
  gd (decide (0 ≤ x16) && (x16.toNat.blt m.2.length && true)) <|
  gd (T.isI IntKind.i64 (atL Rm.cs m.2 x16.toNat 6)) <|
  K .normal (st_sTakenBy_1 m (IntKind.i64.wrap (x12 + (atL Rm.cs m.2 x16.toNat 6).toI)) (IntKind.i64.wrap (x16 + 1)))
 else
 K (.exit 0) (ex_sTakenBy_1_1 m x12 x16)) := by kernel_rfl
theorem post_sTakenBy_1_1 (m : Ml) (x12 : Int) (x16 : Int) (n : Nat) : contAt prog (tabS []) kp_sTakenBy F_sTakenBy ts_sTakenBy [1, 1, 0, 1, 0] [] n (.exit 0) (ex_sTakenBy_1_1 m x12 x16) = (
 some ([(false, [.tr true (T.int IntKind.i64 x12)])], [(false, [])])) := by kernel_rfl
theorem pre_sTakenBy (m : Ml) (n : Nat) : body prog (tabS []) kp_sTakenBy n F_sTakenBy [aR m.cs] = (
 loopAt prog (tabS []) kp_sTakenBy F_sTakenBy [1, 1, 0, 1, 0] n n (st_sTakenBy_1 m (0) (0)) (contAt prog (tabS []) kp_sTakenBy F_sTakenBy ts_sTakenBy [1, 1, 0, 1, 0] [] n)) := by kernel_rfl
def ok_sAlignUp (x : Int × Int) : Prop := True
def ea_sAlignUp (x : Int × Int) : List Arg := [aI x.1, aI x.2]
def f_sAlignUp (x : Int × Int) : Int := aup x.1 x.2
noncomputable def e_sAlignUp : Ent := ent [] ok_sAlignUp ea_sAlignUp (erI 2) f_sAlignUp
theorem ea_sAlignUp_inj (x y : Int × Int) (h : ea_sAlignUp x = ea_sAlignUp y) : x = y := by
  obtain ⟨x1, y1⟩ := x
  obtain ⟨x2, y2⟩ := y
  simp only [ea_sAlignUp, List.cons.injEq, and_true, true_and] at h
  obtain ⟨e0, e1⟩ := h
  obtain rfl := aI_inj e0
  obtain rfl := aI_inj e1
  rfl
theorem dm_sAlignUp {x : Int} {y : Int} (h : ok_sAlignUp (x, y)) : dom ok_sAlignUp ea_sAlignUp [(0, false, [C.tr false (T.int IntKind.i64 x)]), (0, false, [C.tr false (T.int IntKind.i64 y)])] = true := dom_ea (ea := ea_sAlignUp) (x := (x, y)) h
theorem iv_sAlignUp {x : Int} {y : Int} (h : ok_sAlignUp (x, y)) : inv ok_sAlignUp ea_sAlignUp [(0, false, [C.tr false (T.int IntKind.i64 x)]), (0, false, [C.tr false (T.int IntKind.i64 y)])] = (x, y) := inv_ea ea_sAlignUp_inj (x := (x, y)) h
theorem d_sAlignUp (x : Int) (y : Int) : f_sAlignUp (x, y) = aup x y := rfl
def i_sAlignUp : Nat := 168
noncomputable abbrev F_sAlignUp : Func := f168
def kp_sAlignUp : List (Nat × List Nat) := [(0, [0, 4, 36, 40, 44]), (1, [0, 4, 48]), (2, [16]), (3, [16])]
theorem pre_sAlignUp (x : Int) (y : Int) (n : Nat) : body prog (tabS [(i_l1In, e_l1In), (i_sisAl, e_sisAl)]) kp_sAlignUp n F_sAlignUp [aI x, aI y] = (
 bif decide (0 ≤ x) then
  bif !decide (x ≤ 1000000000) then
   some ([(false, [.tr true (T.int IntKind.i64 0)])], [(false, []), (false, [])])
  else
  bif y == 1 then
   gd (!y == 0) <|
   some ([(false, [.tr true (T.int IntKind.i64
  (IntKind.i64.wrap (IntKind.i64.wrap ((IntKind.i64.wrap (IntKind.i64.wrap (x + y) - 1)).tdiv y) * y)))])], [(false, []), (false, [])])
  else
  bif y == 2 then
   gd (!y == 0) <|
   some ([(false, [.tr true (T.int IntKind.i64
  (IntKind.i64.wrap (IntKind.i64.wrap ((IntKind.i64.wrap (IntKind.i64.wrap (x + y) - 1)).tdiv y) * y)))])], [(false, []), (false, [])])
  else
  bif !y == 4 then
   some ([(false, [.tr true (T.int IntKind.i64 0)])], [(false, []), (false, [])])
  else
  gd (!y == 0) <|
  some ([(false, [.tr true (T.int IntKind.i64
  (IntKind.i64.wrap (IntKind.i64.wrap ((IntKind.i64.wrap (IntKind.i64.wrap (x + y) - 1)).tdiv y) * y)))])], [(false, []), (false, [])])
 else
 some ([(false, [.tr true (T.int IntKind.i64 0)])], [(false, []), (false, [])])) := by kernel_rfl
def ok_sCeilDiv (x : Int × Int) : Prop := True
def ea_sCeilDiv (x : Int × Int) : List Arg := [aI x.1, aI x.2]
def f_sCeilDiv (x : Int × Int) : Int := cdv x.1 x.2
noncomputable def e_sCeilDiv : Ent := ent [] ok_sCeilDiv ea_sCeilDiv (erI 2) f_sCeilDiv
theorem ea_sCeilDiv_inj (x y : Int × Int) (h : ea_sCeilDiv x = ea_sCeilDiv y) : x = y := by
  obtain ⟨x1, y1⟩ := x
  obtain ⟨x2, y2⟩ := y
  simp only [ea_sCeilDiv, List.cons.injEq, and_true, true_and] at h
  obtain ⟨e0, e1⟩ := h
  obtain rfl := aI_inj e0
  obtain rfl := aI_inj e1
  rfl
theorem dm_sCeilDiv {x : Int} {y : Int} (h : ok_sCeilDiv (x, y)) : dom ok_sCeilDiv ea_sCeilDiv [(0, false, [C.tr false (T.int IntKind.i64 x)]), (0, false, [C.tr false (T.int IntKind.i64 y)])] = true := dom_ea (ea := ea_sCeilDiv) (x := (x, y)) h
theorem iv_sCeilDiv {x : Int} {y : Int} (h : ok_sCeilDiv (x, y)) : inv ok_sCeilDiv ea_sCeilDiv [(0, false, [C.tr false (T.int IntKind.i64 x)]), (0, false, [C.tr false (T.int IntKind.i64 y)])] = (x, y) := inv_ea ea_sCeilDiv_inj (x := (x, y)) h
theorem d_sCeilDiv (x : Int) (y : Int) : f_sCeilDiv (x, y) = cdv x y := rfl
def i_sCeilDiv : Nat := 101
noncomputable abbrev F_sCeilDiv : Func := f101
def kp_sCeilDiv : List (Nat × List Nat) := [(0, [0, 4, 36, 40, 44]), (1, [0, 4, 48]), (2, [16]), (3, [16])]
theorem pre_sCeilDiv (x : Int) (y : Int) (n : Nat) : body prog (tabS [(i_l1In, e_l1In)]) kp_sCeilDiv n F_sCeilDiv [aI x, aI y] = (
 bif decide (0 ≤ x) then
  bif !decide (x ≤ 1000000000) then
   some ([(false, [.tr true (T.int IntKind.i64 0)])], [(false, []), (false, [])])
  else
  bif decide (1 ≤ y) then
   bif !decide (y ≤ 1000000000) then
    some ([(false, [.tr true (T.int IntKind.i64 0)])], [(false, []), (false, [])])
   else
   gd (!y == 0) <|
   some ([(false, [.tr true (T.int IntKind.i64 (IntKind.i64.wrap ((IntKind.i64.wrap (IntKind.i64.wrap (x + y) - 1)).tdiv y)))])], [(false, []), (false, [])])
  else
  some ([(false, [.tr true (T.int IntKind.i64 0)])], [(false, []), (false, [])])
 else
 some ([(false, [.tr true (T.int IntKind.i64 0)])], [(false, []), (false, [])])) := by kernel_rfl
def ok_sZeros (x : Int) : Prop := True
def ea_sZeros (x : Int) : List Arg := [aI x]
def f_sZeros (x : Int) : List UInt8 := zer x
noncomputable def e_sZeros : Ent := ent [] ok_sZeros ea_sZeros (fun l => erT 1 (eB l)) f_sZeros
theorem ea_sZeros_inj (x y : Int) (h : ea_sZeros x = ea_sZeros y) : x = y := by
  simp only [ea_sZeros, List.cons.injEq, and_true, true_and] at h
  exact aI_inj h
theorem dm_sZeros {x : Int} (h : ok_sZeros x) : dom ok_sZeros ea_sZeros [(0, false, [C.tr false (T.int IntKind.i64 x)])] = true := dom_ea (ea := ea_sZeros) (x := x) h
theorem iv_sZeros {x : Int} (h : ok_sZeros x) : inv ok_sZeros ea_sZeros [(0, false, [C.tr false (T.int IntKind.i64 x)])] = x := inv_ea ea_sZeros_inj (x := x) h
theorem d_sZeros (x : Int) : f_sZeros x = zer x := rfl
def i_sZeros : Nat := 129
noncomputable abbrev F_sZeros : Func := f129
def kp_sZeros : List (Nat × List Nat) := [(0, [0]), (1, [0, 20]), (2, [8]), (3, [8])]
theorem pre_sZeros (x : Int) (n : Nat) : body prog (tabS [(i_l1In, e_l1In)]) kp_sZeros n F_sZeros [aI x] = (
 bif decide (0 ≤ x) then
  bif !decide (x ≤ 4096) then
   some ([(false, [.tr true (.arr (1) (0) (rowsT []))])], [(false, [])])
  else
  gd (decide (0 ≤ x) && (decide (x ≤ x) && ((x.toNat * 1).ble 70368744177664 && x.toNat.ble 70368744177664))) <|
  gd (x.toNat.ble x.toNat && true) <|
  gd (x.toNat.ble x.toNat && true) <|
  some ([(false, [.tr true (.arr (1) (x.toNat) (cutT 0 x.toNat (zeroT prog 5)))])], [(false, [])])
 else
 some ([(false, [.tr true (.arr (1) (0) (rowsT []))])], [(false, [])])) := by kernel_rfl
end Go.Mach.F
namespace Go.Mach.F
open Go Go.Mach Go.Proofs.Try
theorem tkn_take {l : List Rm} {i : Nat} {x : Rm} (h : l[i]? = some x) : tkn (l.take (i + 1)) = IntKind.i64.wrap (tkn (l.take i) + x.chunks) := by
  unfold tkn
  rw [List.take_add_one, h, List.foldl_append]
  rfl
theorem body_iTakenBy (m : Ml) (h : ok_iTakenBy m) : body prog (tabS []) kp_iTakenBy (m.rooms.length + 1) F_iTakenBy (ea_iTakenBy m) = some (erI 1 (f_iTakenBy m)) := by
  have hlm := lm
  have hl : m.rooms.length ≤ LM := h
  unfold ea_iTakenBy f_iTakenBy
  try dsimp only
  rw [pre_iTakenBy]
  have hst : st_iTakenBy_1 m 0 0 = (fun i : Nat => st_iTakenBy_1 m (tkn (m.rooms.take i)) (i : Nat)) 0 := rfl
  rw [hst, forLoop m.rooms.length (fun i : Nat => st_iTakenBy_1 m (tkn (m.rooms.take i)) (i : Nat)) (ex_iTakenBy_1_1 m (tkn m.rooms) m.rooms.length) 0 (fun i K hi => ?_) (fun K => ?_) _ (Nat.le_refl _)]
  · rw [post_iTakenBy_1_1]
    rfl
  · have hx := List.getElem?_eq_getElem hi
    rw [round_iTakenBy_1, tkn_take hx]
    simp (disch := omega) only [lt_d, ge0_d, Int.toNat_natCast, blt_d, ble_self, beq_self, decide_true, cond_true, Bool.and_self, Bool.and_true, Bool.true_and, gd_true, Nat.zero_add, List.getD_cons_zero, List.getD_cons_succ, isI_int, toI_int, isB_bool, toB_bool, eL_T, arr_ln, arr_fn, arr_wd, arr_is, arr_get, hi, atL_of hx, Rm.cs, wrapS]
  · rw [round_iTakenBy_1, List.take_length]
    simp only [lt_d, Nat.lt_irrefl, decide_false, cond_false]
theorem s_iTakenBy : EntOk prog i_iTakenBy e_iTakenBy := ent_ok ea_iTakenBy_inj fun x hx =>
  body_sound (φ := (tabS [])) tabS_nil mixed (kp := kp_iTakenBy) (n := x.rooms.length + 1) func170 (c := bodyOf F_iTakenBy) (by kernel_rfl) (body_iTakenBy x hx) (name_ok (by kernel_rfl))
theorem body_iAlignUp (x y : Int) (n : Nat) (h : ok_iAlignUp (x, y)) : body prog (tabS [(i_within, e_within), (i_iisAl, e_iisAl)]) kp_iAlignUp n F_iAlignUp (ea_iAlignUp (x, y)) = some (erI 2 (f_iAlignUp (x, y))) := by
  unfold ea_iAlignUp f_iAlignUp aup inR isAl
  dsimp only
  rw [pre_iAlignUp]
  simp only [int_eq]
  by_cases h1 : 0 ≤ x
  case neg =>
    simp only [h1, decide_false, cond_false, Bool.false_and]
    rfl
  by_cases h2 : x ≤ 1000000000
  case neg =>
    simp only [h1, h2, decide_true, decide_false, cond_true, cond_false, Bool.and_false, Bool.false_and, Bool.not_false]
    rfl
  by_cases h3 : y = 1
  · subst h3
    simp only [h1, h2, decide_true, cond_true, Bool.not_true, cond_false, Bool.and_self, Bool.true_or, Bool.true_and]
    rfl
  by_cases h4 : y = 2
  · subst h4
    simp only [h1, h2, decide_true, cond_true, Bool.not_true, cond_false, Bool.and_self, Bool.true_or, Bool.or_true, Bool.true_and]
    rfl
  by_cases h5 : y = 4
  · subst h5
    simp only [h1, h2, decide_true, cond_true, Bool.not_true, cond_false, Bool.and_self, Bool.or_true, Bool.true_and]
    rfl
  simp only [h1, h2, h3, h4, h5, decide_true, decide_false, cond_true, Bool.not_true, Bool.not_false, cond_false, Bool.and_self, Bool.or_self, Bool.and_false]
  rfl
theorem s_iAlignUp : EntOk prog i_iAlignUp e_iAlignUp := ent_ok ea_iAlignUp_inj fun x hx =>
  body_sound (φ := (tabS [(i_within, e_within), (i_iisAl, e_iisAl)])) (tabS_cons s_within (tabS_cons s_iisAl tabS_nil)) mixed (kp := kp_iAlignUp) (n := 0) func134 (c := bodyOf F_iAlignUp) (by kernel_rfl) (body_iAlignUp x.1 x.2 (0) hx) (name_ok (by kernel_rfl))
theorem body_iCeilDiv (x y : Int) (n : Nat) (h : ok_iCeilDiv (x, y)) : body prog (tabS [(i_within, e_within)]) kp_iCeilDiv n F_iCeilDiv (ea_iCeilDiv (x, y)) = some (erI 2 (f_iCeilDiv (x, y))) := by
  unfold ea_iCeilDiv f_iCeilDiv cdv inR
  dsimp only
  rw [pre_iCeilDiv]
  by_cases h1 : 0 ≤ x
  case neg =>
    simp only [h1, decide_false, cond_false, Bool.false_and]
    rfl
  by_cases h2 : x ≤ 1000000000
  case neg =>
    simp only [h1, h2, decide_true, decide_false, cond_true, cond_false, Bool.and_false, Bool.false_and, Bool.not_false]
    rfl
  by_cases h3 : 1 ≤ y
  case neg =>
    simp only [h1, h2, h3, decide_true, decide_false, cond_true, cond_false, Bool.and_false, Bool.false_and, Bool.not_true, Bool.and_self]
    rfl
  by_cases h4 : y ≤ 1000000000
  case neg =>
    simp only [h1, h2, h3, h4, decide_true, decide_false, cond_true, cond_false, Bool.and_false, Bool.and_self, Bool.not_true, Bool.not_false]
    rfl
  have h5 : ¬ y = 0 := by omega
  simp only [h1, h2, h3, h4, h5, int_eq, decide_true, decide_false, cond_true, cond_false, Bool.and_self, Bool.not_true, Bool.not_false, gd_true]
  rfl
theorem s_iCeilDiv : EntOk prog i_iCeilDiv e_iCeilDiv := ent_ok ea_iCeilDiv_inj fun x hx =>
  body_sound (φ := (tabS [(i_within, e_within)])) (tabS_cons s_within tabS_nil) mixed (kp := kp_iCeilDiv) (n := 0) func103 (c := bodyOf F_iCeilDiv) (by kernel_rfl) (body_iCeilDiv x.1 x.2 (0) hx) (name_ok (by kernel_rfl))
theorem body_sTakenBy (m : Ml) (h : ok_sTakenBy m) : body prog (tabS []) kp_sTakenBy (m.rooms.length + 1) F_sTakenBy (ea_sTakenBy m) = some (erI 1 (f_sTakenBy m)) := by
  have hlm := lm
  have hl : m.rooms.length ≤ LM := h
  unfold ea_sTakenBy f_sTakenBy
  try dsimp only
  rw [pre_sTakenBy]
  have hst : st_sTakenBy_1 m 0 0 = (fun i : Nat => st_sTakenBy_1 m (tkn (m.rooms.take i)) (i : Nat)) 0 := rfl
  rw [hst, forLoop m.rooms.length (fun i : Nat => st_sTakenBy_1 m (tkn (m.rooms.take i)) (i : Nat)) (ex_sTakenBy_1_1 m (tkn m.rooms) m.rooms.length) 0 (fun i K hi => ?_) (fun K => ?_) _ (Nat.le_refl _)]
  · rw [post_sTakenBy_1_1]
    rfl
  · have hx := List.getElem?_eq_getElem hi
    rw [round_sTakenBy_1, tkn_take hx]
    simp (disch := omega) only [lt_d, ge0_d, Int.toNat_natCast, blt_d, ble_self, beq_self, decide_true, cond_true, Bool.and_self, Bool.and_true, Bool.true_and, gd_true, Nat.zero_add, List.getD_cons_zero, List.getD_cons_succ, isI_int, toI_int, isB_bool, toB_bool, eL_T, arr_ln, arr_fn, arr_wd, arr_is, arr_get, hi, atL_of hx, Rm.cs, wrapS]
  · rw [round_sTakenBy_1, List.take_length]
    simp only [lt_d, Nat.lt_irrefl, decide_false, cond_false]
theorem s_sTakenBy : EntOk prog i_sTakenBy e_sTakenBy := ent_ok ea_sTakenBy_inj fun x hx =>
  body_sound (φ := (tabS [])) tabS_nil mixed (kp := kp_sTakenBy) (n := x.rooms.length + 1) func128 (c := bodyOf F_sTakenBy) (by kernel_rfl) (body_sTakenBy x hx) (name_ok (by kernel_rfl))
theorem body_sAlignUp (x y : Int) (n : Nat) (h : ok_sAlignUp (x, y)) : body prog (tabS [(i_l1In, e_l1In), (i_sisAl, e_sisAl)]) kp_sAlignUp n F_sAlignUp (ea_sAlignUp (x, y)) = some (erI 2 (f_sAlignUp (x, y))) := by
  unfold ea_sAlignUp f_sAlignUp aup inR isAl
  dsimp only
  rw [pre_sAlignUp]
  simp only [int_eq]
  by_cases h1 : 0 ≤ x
  case neg =>
    simp only [h1, decide_false, cond_false, Bool.false_and]
    rfl
  by_cases h2 : x ≤ 1000000000
  case neg =>
    simp only [h1, h2, decide_true, decide_false, cond_true, cond_false, Bool.and_false, Bool.false_and, Bool.not_false]
    rfl
  by_cases h3 : y = 1
  · subst h3
    simp only [h1, h2, decide_true, cond_true, Bool.not_true, cond_false, Bool.and_self, Bool.true_or, Bool.true_and]
    rfl
  by_cases h4 : y = 2
  · subst h4
    simp only [h1, h2, decide_true, cond_true, Bool.not_true, cond_false, Bool.and_self, Bool.true_or, Bool.or_true, Bool.true_and]
    rfl
  by_cases h5 : y = 4
  · subst h5
    simp only [h1, h2, decide_true, cond_true, Bool.not_true, cond_false, Bool.and_self, Bool.or_true, Bool.true_and]
    rfl
  simp only [h1, h2, h3, h4, h5, decide_true, decide_false, cond_true, Bool.not_true, Bool.not_false, cond_false, Bool.and_self, Bool.or_self, Bool.and_false]
  rfl
theorem s_sAlignUp : EntOk prog i_sAlignUp e_sAlignUp := ent_ok ea_sAlignUp_inj fun x hx =>
  body_sound (φ := (tabS [(i_l1In, e_l1In), (i_sisAl, e_sisAl)])) (tabS_cons s_l1In (tabS_cons s_sisAl tabS_nil)) mixed (kp := kp_sAlignUp) (n := 0) func168 (c := bodyOf F_sAlignUp) (by kernel_rfl) (body_sAlignUp x.1 x.2 (0) hx) (name_ok (by kernel_rfl))
theorem body_sCeilDiv (x y : Int) (n : Nat) (h : ok_sCeilDiv (x, y)) : body prog (tabS [(i_l1In, e_l1In)]) kp_sCeilDiv n F_sCeilDiv (ea_sCeilDiv (x, y)) = some (erI 2 (f_sCeilDiv (x, y))) := by
  unfold ea_sCeilDiv f_sCeilDiv cdv inR
  dsimp only
  rw [pre_sCeilDiv]
  by_cases h1 : 0 ≤ x
  case neg =>
    simp only [h1, decide_false, cond_false, Bool.false_and]
    rfl
  by_cases h2 : x ≤ 1000000000
  case neg =>
    simp only [h1, h2, decide_true, decide_false, cond_true, cond_false, Bool.and_false, Bool.false_and, Bool.not_false]
    rfl
  by_cases h3 : 1 ≤ y
  case neg =>
    simp only [h1, h2, h3, decide_true, decide_false, cond_true, cond_false, Bool.and_false, Bool.false_and, Bool.not_true, Bool.and_self]
    rfl
  by_cases h4 : y ≤ 1000000000
  case neg =>
    simp only [h1, h2, h3, h4, decide_true, decide_false, cond_true, cond_false, Bool.and_false, Bool.and_self, Bool.not_true, Bool.not_false]
    rfl
  have h5 : ¬ y = 0 := by omega
  simp only [h1, h2, h3, h4, h5, int_eq, decide_true, decide_false, cond_true, cond_false, Bool.and_self, Bool.not_true, Bool.not_false, gd_true]
  rfl
theorem s_sCeilDiv : EntOk prog i_sCeilDiv e_sCeilDiv := ent_ok ea_sCeilDiv_inj fun x hx =>
  body_sound (φ := (tabS [(i_l1In, e_l1In)])) (tabS_cons s_l1In tabS_nil) mixed (kp := kp_sCeilDiv) (n := 0) func101 (c := bodyOf F_sCeilDiv) (by kernel_rfl) (body_sCeilDiv x.1 x.2 (0) hx) (name_ok (by kernel_rfl))
theorem body_sZeros (x : Int) (n : Nat) (h : ok_sZeros x) : body prog (tabS [(i_l1In, e_l1In)]) kp_sZeros n F_sZeros (ea_sZeros x) = some (erT 1 (eB (f_sZeros x))) := by
  unfold ea_sZeros f_sZeros zer inR
  rw [pre_sZeros]
  have r0 : T.arr 1 0 (rowsT []) = T.arr 1 0 (atL rowB []) := by rw [rowsT0 rowB]
  by_cases h1 : 0 ≤ x
  case neg =>
    simp only [h1, decide_false, cond_false, Bool.false_and, r0]
    rfl
  by_cases h2 : x ≤ 4096
  case neg =>
    simp only [h1, h2, decide_true, decide_false, cond_true, cond_false, Bool.and_false, Bool.false_and, Bool.not_false, r0]
    rfl
  have h3 : x.toNat * 1 ≤ 70368744177664 := by omega
  have h4 : x.toNat ≤ 70368744177664 := by omega
  simp only [h1, h2, h3, h4, ble_d, Nat.le_refl, Int.le_refl, decide_true, cond_true, cond_false, Bool.and_self, Bool.and_true, Bool.not_true, gd_true]
  rw [zero_fill (m := 1) (row := rowB) (d := 0) x.toNat (fun j k => by rcases k with _ | _ <;> kernel_rfl)]
  simp only [erT, eL_T, List.length_replicate]
  rfl
theorem s_sZeros : EntOk prog i_sZeros e_sZeros := ent_ok ea_sZeros_inj fun x hx =>
  body_sound (φ := (tabS [(i_l1In, e_l1In)])) (tabS_cons s_l1In tabS_nil) mixed (kp := kp_sZeros) (n := 0) func129 (c := bodyOf F_sZeros) (by kernel_rfl) (body_sZeros x (0) hx) (name_ok (by kernel_rfl))
end Go.Mach.F
namespace Go.Mach.F
open Go Go.Mach Go.Proofs.Try
--=set_option maxRecDepth 100000
def pR (cs : List T) : Arg := (2, (true, cs.map fun t => .tr true t))
def rmJ (m : Ml) (j : Int) : Rm := m.rooms.getD j.toNat zRm
def needC (m : Ml) (x : Rm) (sz al : Int) : Bool := !x.cur || decide (m.c.size < IntKind.i64.wrap (aup x.bump al + sz))
def setJ (m : Ml) (j : Int) (y : Rm) : Ml := ⟨m.c, m.rooms.set j.toNat y, m.log⟩
def smlR (x : Rm) (n : Bool) (sz al : Int) : Rm := bif n then { x with chunks := IntKind.i64.wrap (x.chunks + 1), cur := true, bump := IntKind.i64.wrap (aup 0 al + sz) } else { x with bump := IntKind.i64.wrap (aup x.bump al + sz) }
def smlM (m : Ml) (j sz al : Int) : Ml × Int := bif needC m (rmJ m j) sz al && decide (m.c.chunks < IntKind.i64.wrap (tkn m.rooms + 1)) then (m, 5) else (setJ m j (smlR (rmJ m j) (needC m (rmJ m j) sz al) sz al), 0)
theorem pR_inj {cs cs' : List T} (h : pR cs = pR cs') : cs = cs' := by
  have e := congrArg (fun a : Arg => a.2.2) h
  exact (List.map_inj_right (fun x y h => by cases h; rfl)).1 e
def ok_sSml (x : Ml × Int × Int × Int) : Prop := x.1.rooms.length ≤ LM ∧ 0 ≤ x.2.1 ∧ x.2.1.toNat < x.1.rooms.length
def ea_sSml (x : Ml × Int × Int × Int) : List Arg := [pR x.1.cs, aI x.2.1, aI x.2.2.1, aI x.2.2.2]
def f_sSml (x : Ml × Int × Int × Int) : Ml × Int := smlM x.1 x.2.1 x.2.2.1 x.2.2.2
noncomputable def e_sSml : Ent := ent [2,0,0,0] ok_sSml ea_sSml (fun (x : Ml × Int) => ([oT (.int .i64 x.2)], [oR x.1.cs, nul, nul, nul])) f_sSml
theorem ea_sSml_inj (x y : Ml × Int × Int × Int) (h : ea_sSml x = ea_sSml y) : x = y := by
  obtain ⟨m1, j1, sz1, al1⟩ := x
  obtain ⟨m2, j2, sz2, al2⟩ := y
  simp only [ea_sSml, List.cons.injEq, and_true, true_and] at h
  obtain ⟨e0, e1, e2, e3⟩ := h
  obtain rfl := Ml.cs_ext (pR_inj e0)
  obtain rfl := aI_inj e1
  obtain rfl := aI_inj e2
  obtain rfl := aI_inj e3
  rfl
theorem dm_sSml {m : Ml} {j : Int} {sz : Int} {al : Int} (h : ok_sSml (m, j, sz, al)) : dom ok_sSml ea_sSml [(2, true, [C.tr true (T.int IntKind.i64 m.c.chunks), C.tr true (T.int IntKind.i64 m.c.size), C.tr true (T.int IntKind.i64 m.c.slots), C.tr true (T.int IntKind.i64 m.c.tax), C.tr true (T.int IntKind.i64 m.c.slice), C.tr true (T.int IntKind.i64 m.c.gens), C.tr true (T.arr 11 m.rooms.length (atL Rm.cs m.rooms)), C.tr true (T.arr 1 m.log.length (atL rowI m.log))]), (0, false, [C.tr false (T.int IntKind.i64 j)]), (0, false, [C.tr false (T.int IntKind.i64 sz)]), (0, false, [C.tr false (T.int IntKind.i64 al)])] = true := dom_ea (ea := ea_sSml) (x := (m, j, sz, al)) h
theorem iv_sSml {m : Ml} {j : Int} {sz : Int} {al : Int} (h : ok_sSml (m, j, sz, al)) : inv ok_sSml ea_sSml [(2, true, [C.tr true (T.int IntKind.i64 m.c.chunks), C.tr true (T.int IntKind.i64 m.c.size), C.tr true (T.int IntKind.i64 m.c.slots), C.tr true (T.int IntKind.i64 m.c.tax), C.tr true (T.int IntKind.i64 m.c.slice), C.tr true (T.int IntKind.i64 m.c.gens), C.tr true (T.arr 11 m.rooms.length (atL Rm.cs m.rooms)), C.tr true (T.arr 1 m.log.length (atL rowI m.log))]), (0, false, [C.tr false (T.int IntKind.i64 j)]), (0, false, [C.tr false (T.int IntKind.i64 sz)]), (0, false, [C.tr false (T.int IntKind.i64 al)])] = (m, j, sz, al) := inv_ea ea_sSml_inj (x := (m, j, sz, al)) h
theorem d_sSml (m : Ml) (j : Int) (sz : Int) (al : Int) : f_sSml (m, j, sz, al) = smlM m j sz al := rfl
def i_sSml : Nat := 126
noncomputable abbrev F_sSml : Func := f126
def kp_sSml : List (Nat × List Nat) := [(0, [0, 4, 8, 12, 36, 40, 44, 48, 52, 56, 60, 88, 92, 96, 100, 104, 108, 112, 116, 120, 124, 128, 132, 136, 140, 293]), (1, [0, 8, 12, 36, 40, 44, 48, 52, 56, 60, 88, 92, 96, 100, 104, 108, 112, 116, 120, 124, 128, 132, 136, 140, 293]), (2, [0, 8, 12, 36, 40, 44, 48, 52, 56, 60, 144, 293]), (3, [0, 8, 12, 36, 40, 44, 48, 52, 56, 60, 188, 293]), (4, [32, 293]), (5, [0, 8, 12, 36, 40, 44, 48, 52, 56, 60, 293]), (6, [0, 8, 12, 36, 40, 44, 48, 52, 56, 60, 293]), (7, [0, 8, 12, 36, 40, 44, 48, 52, 56, 60, 293]), (8, [293]), (9, [32, 293])]
theorem pre_sSml (m : Ml) (j : Int) (sz : Int) (al : Int) (n : Nat) : body prog (tabS [(i_sTakenBy, e_sTakenBy), (i_sAlignUp, e_sAlignUp)]) kp_sSml n F_sSml [pR m.cs, aI j, aI sz, aI al] = (
 gd (decide (0 ≤ j) && (j.toNat.blt m.2.length && true)) <|
 gd ((0 + j.toNat).blt m.2.length && true && (atL Rm.cs m.2 (0 + j.toNat) (7 + 0)).isB) <|
 bif !(atL Rm.cs m.2 (0 + j.toNat) (7 + 0)).toB then
  gd ((0 + m.2.length).ble m.2.length) <|
  gd ((0 + m.3.length).ble m.3.length) <|
  entK ok_sTakenBy ea_sTakenBy (f_sTakenBy) [(0, true,
    [C.tr false (T.int IntKind.i64 m.c.1), C.tr false (T.int IntKind.i64 m.c.2),
      C.tr false (T.int IntKind.i64 m.c.3), C.tr false (T.int IntKind.i64 m.c.4),
      C.tr false (T.int IntKind.i64 m.c.5), C.tr false (T.int IntKind.i64 m.c.6),
      C.tr false (T.arr 11 m.2.length (cutT 0 m.2.length (eL 11 Rm.cs m.2).fn)),
      C.tr false (T.arr 1 m.3.length (cutT 0 m.3.length (eL 1 rowI m.3).fn))])] fun (r2 : Int) =>
  bif decide (m.c.1 < IntKind.i64.wrap (r2 + 1)) then
   some ([(false, [.tr true (T.int IntKind.i64 5)])], [(true, [.tr true (T.int IntKind.i64 m.c.1), .tr true (T.int IntKind.i64 m.c.2), .tr true (T.int IntKind.i64 m.c.3), .tr true (T.int IntKind.i64 m.c.4), .tr true (T.int IntKind.i64 m.c.5), .tr true (T.int IntKind.i64 m.c.6), .tr true (eL 11 Rm.cs m.2), .tr true (eL 1 rowI m.3)]), (false, []), (false, []), (false, [])])
  else
  gd ((0 + j.toNat).blt m.2.length && true && T.isI IntKind.i64 (atL Rm.cs m.2 (0 + j.toNat) (6 + 0))) <|
  gd ((0 + j.toNat).blt m.2.length && true && true) <|
  gd ((0 + j.toNat).blt m.2.length && true && true) <|
  gd ((0 + j.toNat).blt m.2.length && true && true) <|
  gd ((0 + j.toNat).blt m.2.length && true &&
  T.isI IntKind.i64
    (setF (0 + j.toNat) 8 (T.int IntKind.i64 0)
      (setF (0 + j.toNat) 7 (T.bool true)
        (setF (0 + j.toNat) 6 (T.int IntKind.i64 (IntKind.i64.wrap ((atL Rm.cs m.2 (0 + j.toNat) 6).toI + 1)))
          (atL Rm.cs m.2)))
      (0 + j.toNat) (8 + 0))) <|
  entK ok_sAlignUp ea_sAlignUp (f_sAlignUp) [(0, false,
    [C.tr false
        (T.int IntKind.i64
          (setF (0 + j.toNat) 8 (T.int IntKind.i64 0)
              (setF (0 + j.toNat) 7 (T.bool true)
                (setF (0 + j.toNat) 6
                  (T.int IntKind.i64 (IntKind.i64.wrap ((atL Rm.cs m.2 (0 + j.toNat) 6).toI + 1))) (atL Rm.cs m.2)))
              (0 + j.toNat) (8 + 0)).toI)]),
  (0, false, [C.tr false (T.int IntKind.i64 al)])] fun (r3 : Int) =>
  gd ((0 + j.toNat).blt m.2.length && true && true) <|
  some ([(false, [.tr true (T.int IntKind.i64 0)])], [(true, [.tr true (T.int IntKind.i64 m.c.1), .tr true (T.int IntKind.i64 m.c.2), .tr true (T.int IntKind.i64 m.c.3), .tr true (T.int IntKind.i64 m.c.4), .tr true (T.int IntKind.i64 m.c.5), .tr true (T.int IntKind.i64 m.c.6), .tr true (.arr (11) (m.2.length) (setF (0 + j.toNat) 8 (T.int IntKind.i64 (IntKind.i64.wrap (r3 + sz)))
  (setF (0 + j.toNat) 8 (T.int IntKind.i64 0)
    (setF (0 + j.toNat) 7 (T.bool true)
      (setF (0 + j.toNat) 6 (T.int IntKind.i64 (IntKind.i64.wrap ((atL Rm.cs m.2 (0 + j.toNat) 6).toI + 1)))
        (atL Rm.cs m.2)))))), .tr true (eL 1 rowI m.3)]), (false, []), (false, []), (false, [])])
 else
 gd ((0 + j.toNat).blt m.2.length && true && T.isI IntKind.i64 (atL Rm.cs m.2 (0 + j.toNat) (8 + 0))) <|
 entK ok_sAlignUp ea_sAlignUp (f_sAlignUp) [(0, false, [C.tr false (T.int IntKind.i64 (atL Rm.cs m.2 (0 + j.toNat) (8 + 0)).toI)]),
  (0, false, [C.tr false (T.int IntKind.i64 al)])] fun (r1 : Int) =>
 bif decide (m.c.2 < IntKind.i64.wrap (r1 + sz)) then
  gd ((0 + m.2.length).ble m.2.length) <|
  gd ((0 + m.3.length).ble m.3.length) <|
  entK ok_sTakenBy ea_sTakenBy (f_sTakenBy) [(0, true,
    [C.tr false (T.int IntKind.i64 m.c.1), C.tr false (T.int IntKind.i64 m.c.2),
      C.tr false (T.int IntKind.i64 m.c.3), C.tr false (T.int IntKind.i64 m.c.4),
      C.tr false (T.int IntKind.i64 m.c.5), C.tr false (T.int IntKind.i64 m.c.6),
      C.tr false (T.arr 11 m.2.length (cutT 0 m.2.length (eL 11 Rm.cs m.2).fn)),
      C.tr false (T.arr 1 m.3.length (cutT 0 m.3.length (eL 1 rowI m.3).fn))])] fun (r4 : Int) =>
  bif decide (m.c.1 < IntKind.i64.wrap (r4 + 1)) then
   some ([(false, [.tr true (T.int IntKind.i64 5)])], [(true, [.tr true (T.int IntKind.i64 m.c.1), .tr true (T.int IntKind.i64 m.c.2), .tr true (T.int IntKind.i64 m.c.3), .tr true (T.int IntKind.i64 m.c.4), .tr true (T.int IntKind.i64 m.c.5), .tr true (T.int IntKind.i64 m.c.6), .tr true (eL 11 Rm.cs m.2), .tr true (eL 1 rowI m.3)]), (false, []), (false, []), (false, [])])
  else
  gd ((0 + j.toNat).blt m.2.length && true && T.isI IntKind.i64 (atL Rm.cs m.2 (0 + j.toNat) (6 + 0))) <|
  gd ((0 + j.toNat).blt m.2.length && true && true) <|
  gd ((0 + j.toNat).blt m.2.length && true && true) <|
  gd ((0 + j.toNat).blt m.2.length && true && true) <|
  gd ((0 + j.toNat).blt m.2.length && true &&
  T.isI IntKind.i64
    (setF (0 + j.toNat) 8 (T.int IntKind.i64 0)
      (setF (0 + j.toNat) 7 (T.bool true)
        (setF (0 + j.toNat) 6 (T.int IntKind.i64 (IntKind.i64.wrap ((atL Rm.cs m.2 (0 + j.toNat) 6).toI + 1)))
          (atL Rm.cs m.2)))
      (0 + j.toNat) (8 + 0))) <|
  entK ok_sAlignUp ea_sAlignUp (f_sAlignUp) [(0, false,
    [C.tr false
        (T.int IntKind.i64
          (setF (0 + j.toNat) 8 (T.int IntKind.i64 0)
              (setF (0 + j.toNat) 7 (T.bool true)
                (setF (0 + j.toNat) 6
                  (T.int IntKind.i64 (IntKind.i64.wrap ((atL Rm.cs m.2 (0 + j.toNat) 6).toI + 1))) (atL Rm.cs m.2)))
              (0 + j.toNat) (8 + 0)).toI)]),
  (0, false, [C.tr false (T.int IntKind.i64 al)])] fun (r5 : Int) =>
  gd ((0 + j.toNat).blt m.2.length && true && true) <|
  some ([(false, [.tr true (T.int IntKind.i64 0)])], [(true, [.tr true (T.int IntKind.i64 m.c.1), .tr true (T.int IntKind.i64 m.c.2), .tr true (T.int IntKind.i64 m.c.3), .tr true (T.int IntKind.i64 m.c.4), .tr true (T.int IntKind.i64 m.c.5), .tr true (T.int IntKind.i64 m.c.6), .tr true (.arr (11) (m.2.length) (setF (0 + j.toNat) 8 (T.int IntKind.i64 (IntKind.i64.wrap (r5 + sz)))
  (setF (0 + j.toNat) 8 (T.int IntKind.i64 0)
    (setF (0 + j.toNat) 7 (T.bool true)
      (setF (0 + j.toNat) 6 (T.int IntKind.i64 (IntKind.i64.wrap ((atL Rm.cs m.2 (0 + j.toNat) 6).toI + 1)))
        (atL Rm.cs m.2)))))), .tr true (eL 1 rowI m.3)]), (false, []), (false, []), (false, [])])
 else
 gd ((0 + j.toNat).blt m.2.length && true && T.isI IntKind.i64 (atL Rm.cs m.2 (0 + j.toNat) (8 + 0))) <|
 entK ok_sAlignUp ea_sAlignUp (f_sAlignUp) [(0, false, [C.tr false (T.int IntKind.i64 (atL Rm.cs m.2 (0 + j.toNat) (8 + 0)).toI)]),
  (0, false, [C.tr false (T.int IntKind.i64 al)])] fun (r6 : Int) =>
 gd ((0 + j.toNat).blt m.2.length && true && true) <|
 some ([(false, [.tr true (T.int IntKind.i64 0)])], [(true, [.tr true (T.int IntKind.i64 m.c.1), .tr true (T.int IntKind.i64 m.c.2), .tr true (T.int IntKind.i64 m.c.3), .tr true (T.int IntKind.i64 m.c.4), .tr true (T.int IntKind.i64 m.c.5), .tr true (T.int IntKind.i64 m.c.6), .tr true (.arr (11) (m.2.length) (setF (0 + j.toNat) 8 (T.int IntKind.i64 (IntKind.i64.wrap (r6 + sz))) (atL Rm.cs m.2))), .tr true (eL 1 rowI m.3)]), (false, []), (false, []), (false, [])])) := by kernel_rfl
end Go.Mach.F
namespace Go.Mach.F
open Go Go.Mach Go.Proofs.Try
theorem set_get {α : Type} {l : List α} {j : Nat} {x y : α} (h : l[j]? = some x) : (l.set j y)[j]? = some y := by
  rw [List.getElem?_set_self (List.getElem?_eq_some_iff.1 h).1]
theorem body_sSml (m : Ml) (j sz al : Int) (n : Nat) (h : ok_sSml (m, j, sz, al)) : body prog (tabS [(i_sTakenBy, e_sTakenBy), (i_sAlignUp, e_sAlignUp)]) kp_sSml n F_sSml (ea_sSml (m, j, sz, al)) = some ([oT (.int .i64 (f_sSml (m, j, sz, al)).2)], [oR (f_sSml (m, j, sz, al)).1.cs, nul, nul, nul]) := by
  obtain ⟨hl, e0, e1⟩ : m.rooms.length ≤ LM ∧ 0 ≤ j ∧ j.toNat < m.rooms.length := h
  have c0 : ok_sTakenBy m := hl
  have hx := getD_get e1
  unfold ea_sSml f_sSml smlM needC rmJ
  dsimp only
  rw [pre_sSml]
  obtain ⟨x, hxe⟩ : ∃ x, x = m.rooms.getD j.toNat zRm := ⟨_, rfl⟩
  rw [← hxe] at hx ⊢
  have c1 : ok_sAlignUp (x.bump, al) := trivial
  have c2 : ok_sAlignUp (0, al) := trivial
  simp only [lt_d, ge0_d, Int.toNat_natCast, blt_d, ble_self, beq_self, decide_true, cond_true, Bool.and_self, Bool.and_true, Bool.true_and, gd_true, Nat.zero_add, List.getD_cons_zero, List.getD_cons_succ, isI_int, toI_int, isB_bool, toB_bool, eL_T, arr_ln, arr_fn, arr_wd, arr_is, arr_get, e0, e1, Nat.add_zero, atL_of hx, Rm.cs, ble_d, Nat.le_refl, cut_all]
  have fin : ∀ (y : Rm), Rm.cs y = (Rm.cs x).set 8 (.int .i64 y.bump) → setF j.toNat 8 (.int .i64 y.bump) (atL Rm.cs m.rooms) = atL Rm.cs (m.rooms.set j.toNat y) := fun y hy => setF_list hx hy (by decide : 8 < 11)
  have fin2 : ∀ (b : Int), setF j.toNat 8 (.int .i64 b) (setF j.toNat 8 (.int .i64 0) (setF j.toNat 7 (.bool true) (setF j.toNat 6 (.int .i64 (IntKind.i64.wrap (x.chunks + 1))) (atL Rm.cs m.rooms)))) = atL Rm.cs (m.rooms.set j.toNat { x with chunks := IntKind.i64.wrap (x.chunks + 1), cur := true, bump := b }) := fun b => by
    rw [setF_setF, setF_list (y := { x with chunks := IntKind.i64.wrap (x.chunks + 1) }) hx rfl (by decide : 6 < 11), setF_list (y := { x with chunks := IntKind.i64.wrap (x.chunks + 1), cur := true }) (set_get hx) rfl (by decide : 7 < 11), List.set_set,
      setF_list (y := { x with chunks := IntKind.i64.wrap (x.chunks + 1), cur := true, bump := b }) (set_get hx) rfl (by decide : 8 < 11), List.set_set]
  cases hc : x.cur with
  | false =>
    simp only [Bool.not_false, cond_true, Bool.true_or, Bool.true_and]
    rw [entK_of (dm_sTakenBy c0) (iv_sTakenBy c0)]
    simp only [d_sTakenBy]
    by_cases h1 : m.c.chunks < IntKind.i64.wrap (tkn m.rooms + 1)
    · simp only [h1, decide_true, cond_true]
      rfl
    · simp only [h1, decide_false, cond_false, setF_at, isI_int, toI_int, gd_true]
      rw [entK_of (dm_sAlignUp c2) (iv_sAlignUp c2)]
      simp only [d_sAlignUp, fin2, oR, Ml.cs, setJ, smlR, cond_true, eL_T, List.length_set]
      rfl
  | true =>
    simp only [Bool.not_true, cond_false, Bool.false_or]
    rw [entK_of (dm_sAlignUp c1) (iv_sAlignUp c1)]
    simp only [d_sAlignUp]
    by_cases h2 : m.c.size < IntKind.i64.wrap (aup x.bump al + sz)
    · simp only [h2, decide_true, cond_true, Bool.true_and]
      rw [entK_of (dm_sTakenBy c0) (iv_sTakenBy c0)]
      simp only [d_sTakenBy]
      by_cases h1 : m.c.chunks < IntKind.i64.wrap (tkn m.rooms + 1)
      · simp only [h1, decide_true, cond_true]
        rfl
      · simp only [h1, decide_false, cond_false, setF_at, isI_int, toI_int, gd_true]
        rw [entK_of (dm_sAlignUp c2) (iv_sAlignUp c2)]
        simp only [d_sAlignUp, fin2, oR, Ml.cs, setJ, smlR, cond_true, eL_T, List.length_set]
        rfl
    · simp only [h2, decide_false, cond_false, Bool.false_and]
      rw [entK_of (dm_sAlignUp c1) (iv_sAlignUp c1)]
      simp only [d_sAlignUp]
      have := fin { x with bump := IntKind.i64.wrap (aup x.bump al + sz) } rfl
      simp only [hc] at this
      simp only [this, hc, oR, Ml.cs, setJ, smlR, cond_false, eL_T, List.length_set]
      rfl
theorem s_sSml : EntOk prog i_sSml e_sSml := ent_ok ea_sSml_inj fun x hx =>
  body_sound (φ := (tabS [(i_sTakenBy, e_sTakenBy), (i_sAlignUp, e_sAlignUp)])) (tabS_cons s_sTakenBy (tabS_cons s_sAlignUp tabS_nil)) mixed (kp := kp_sSml) (n := 0) func126 (c := bodyOf F_sSml) (by kernel_rfl) (body_sSml x.1 x.2.1 x.2.2.1 x.2.2.2 (0) hx) (name_ok (by kernel_rfl))
end Go.Mach.F
namespace Go.Mach.F
open Go Go.Mach Go.Proofs.Try
--=set_option maxRecDepth 100000
def szOk (sz al : Int) : Bool := inR sz 1 200 && isAl al
def ok_iSzOk (x : Int × Int) : Prop := True
def ea_iSzOk (x : Int × Int) : List Arg := [aI x.1, aI x.2]
def f_iSzOk (x : Int × Int) : Bool := szOk x.1 x.2
noncomputable def e_iSzOk : Ent := ent [] ok_iSzOk ea_iSzOk (erB 2) f_iSzOk
theorem ea_iSzOk_inj (x y : Int × Int) (h : ea_iSzOk x = ea_iSzOk y) : x = y := by
  obtain ⟨sz1, al1⟩ := x
  obtain ⟨sz2, al2⟩ := y
  simp only [ea_iSzOk, List.cons.injEq, and_true, true_and] at h
  obtain ⟨e0, e1⟩ := h
  obtain rfl := aI_inj e0
  obtain rfl := aI_inj e1
  rfl
theorem dm_iSzOk {sz : Int} {al : Int} (h : ok_iSzOk (sz, al)) : dom ok_iSzOk ea_iSzOk [(0, false, [C.tr false (T.int IntKind.i64 sz)]), (0, false, [C.tr false (T.int IntKind.i64 al)])] = true := dom_ea (ea := ea_iSzOk) (x := (sz, al)) h
theorem iv_iSzOk {sz : Int} {al : Int} (h : ok_iSzOk (sz, al)) : inv ok_iSzOk ea_iSzOk [(0, false, [C.tr false (T.int IntKind.i64 sz)]), (0, false, [C.tr false (T.int IntKind.i64 al)])] = (sz, al) := inv_ea ea_iSzOk_inj (x := (sz, al)) h
theorem d_iSzOk (sz : Int) (al : Int) : f_iSzOk (sz, al) = szOk sz al := rfl
def i_iSzOk : Nat := 130
noncomputable abbrev F_iSzOk : Func := f130
def kp_iSzOk : List (Nat × List Nat) := [(0, [0, 4, 32, 36]), (1, [16])]
theorem pre_iSzOk (sz : Int) (al : Int) (n : Nat) : body prog (tabS [(i_within, e_within), (i_iisAl, e_iisAl)]) kp_iSzOk n F_iSzOk [aI sz, aI al] = (
 bif decide (1 ≤ sz) then
  bif decide (sz ≤ 200) then
   bif al == 1 then
    some ([(false, [.tr true (T.bool true)])], [(false, []), (false, [])])
   else
   bif al == 2 then
    some ([(false, [.tr true (T.bool true)])], [(false, []), (false, [])])
   else
   some ([(false, [.tr true (T.bool (al == 4))])], [(false, []), (false, [])])
  else
  some ([(false, [.tr true (T.bool false)])], [(false, []), (false, [])])
 else
 some ([(false, [.tr true (T.bool false)])], [(false, []), (false, [])])) := by kernel_rfl
def ok_sAlg (x : Int) : Prop := True
def ea_sAlg (x : Int) : List Arg := [aI x]
def f_sAlg (x : Int) : Bool := isAl x
noncomputable def e_sAlg : Ent := ent [] ok_sAlg ea_sAlg (erB 1) f_sAlg
theorem ea_sAlg_inj (x y : Int) (h : ea_sAlg x = ea_sAlg y) : x = y := by
  simp only [ea_sAlg, List.cons.injEq, and_true, true_and] at h
  exact aI_inj h
theorem dm_sAlg {y : Int} (h : ok_sAlg y) : dom ok_sAlg ea_sAlg [(0, false, [C.tr false (T.int IntKind.i64 y)])] = true := dom_ea (ea := ea_sAlg) (x := y) h
theorem iv_sAlg {y : Int} (h : ok_sAlg y) : inv ok_sAlg ea_sAlg [(0, false, [C.tr false (T.int IntKind.i64 y)])] = y := inv_ea ea_sAlg_inj (x := y) h
theorem d_sAlg (y : Int) : f_sAlg y = isAl y := rfl
def i_sAlg : Nat := 124
noncomputable abbrev F_sAlg : Func := f124
def kp_sAlg : List (Nat × List Nat) := [(0, [0, 24, 28, 40, 44]), (1, [8])]
theorem pre_sAlg (y : Int) (n : Nat) : body prog (tabS []) kp_sAlg n F_sAlg [aI y] = (
 bif y == 1 then
  some ([(false, [.tr true (T.bool true)])], [(false, [])])
 else
 bif y == 2 then
  some ([(false, [.tr true (T.bool true)])], [(false, [])])
 else
 some ([(false, [.tr true (T.bool (y == 4))])], [(false, [])])) := by kernel_rfl
end Go.Mach.F
namespace Go.Mach.F
open Go Go.Mach Go.Proofs.Try
theorem body_iSzOk (sz al : Int) (n : Nat) (h : ok_iSzOk (sz, al)) : body prog (tabS [(i_within, e_within), (i_iisAl, e_iisAl)]) kp_iSzOk n F_iSzOk (ea_iSzOk (sz, al)) = some (erB 2 (f_iSzOk (sz, al))) := by
  unfold ea_iSzOk f_iSzOk szOk inR isAl
  dsimp only
  rw [pre_iSzOk]
  simp only [int_eq]
  by_cases h1 : 1 ≤ sz <;> by_cases h2 : sz ≤ 200 <;> by_cases h3 : al = 1 <;> by_cases h4 : al = 2 <;> by_cases h5 : al = 4 <;> simp only [h1, h2, h3, h4, h5, decide_true, decide_false, cond_true, cond_false, Bool.and_false, Bool.false_and, Bool.and_self, Bool.or_self, Bool.true_or, Bool.or_true, Bool.true_and] <;> rfl
theorem s_iSzOk : EntOk prog i_iSzOk e_iSzOk := ent_ok ea_iSzOk_inj fun x hx =>
  body_sound (φ := (tabS [(i_within, e_within), (i_iisAl, e_iisAl)])) (tabS_cons s_within (tabS_cons s_iisAl tabS_nil)) mixed (kp := kp_iSzOk) (n := 0) func130 (c := bodyOf F_iSzOk) (by kernel_rfl) (body_iSzOk x.1 x.2 (0) hx) (name_ok (by kernel_rfl))
theorem body_sAlg (y : Int) (n : Nat) (h : ok_sAlg y) : body prog (tabS []) kp_sAlg n F_sAlg (ea_sAlg y) = some (erB 1 (f_sAlg y)) := by
  unfold ea_sAlg f_sAlg isAl
  rw [pre_sAlg]
  simp only [int_eq]
  by_cases h3 : y = 1 <;> by_cases h4 : y = 2 <;> by_cases h5 : y = 4 <;> simp only [h3, h4, h5, decide_true, decide_false, cond_true, cond_false, Bool.or_self, Bool.true_or, Bool.or_true] <;> rfl
theorem s_sAlg : EntOk prog i_sAlg e_sAlg := ent_ok ea_sAlg_inj fun x hx =>
  body_sound (φ := (tabS [])) tabS_nil mixed (kp := kp_sAlg) (n := 0) func124 (c := bodyOf F_sAlg) (by kernel_rfl) (body_sAlg x (0) hx) (name_ok (by kernel_rfl))
end Go.Mach.F
