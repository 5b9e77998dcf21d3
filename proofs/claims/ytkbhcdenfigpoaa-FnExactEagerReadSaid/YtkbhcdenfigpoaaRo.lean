/- What a row's arguments are: trees of the shapes of their types. Conditions: none (lemmas). -/
import Derived.Test.YtkbhcdenfigpoaaTe
import Derived.WalkKit
import Derived.ProofKit
import Derived.OpenShut
import Derived.ShutString
import Derived.ChangeOld
import Derived.Below
import Derived.SizedLaws
set_option linter.all false
namespace Go.Mach
open Go
inductive Sh where
  | int (k : IntKind)
  | bool
  | arr (ss : List Sh)
def shFs (P : Program) (sub : TypeId → Option (List Sh)) : Nat → List Field → Option (List Sh)
  | _, [] => some []
  | o, f :: l => bif Nat.beq f.offset o then match sub f.type with
    | some a => bif Nat.beq a.length (P.cellsOf f.type) then match shFs P sub (o + a.length) l with
      | some r => some (a ++ r)
      | none => none
      else none
    | none => none
    else none
/-- The shapes of a type's cells. -/
def shOf (P : Program) : Nat → TypeId → Option (List Sh)
  | 0, _ => none
  | n + 1, t => match P.underlying t with
    | some .bool => some [.bool]
    | some (.int k) => some [.int k]
    | some (.slice e) => match shOf P n e with
      | some l => bif Nat.beq l.length (P.cellsOf e) && Nat.blt 0 (P.bytesOf e) && Nat.blt 0 l.length then some [.arr l] else none
      | none => none
    | some (.struct fs) => match shFs P (shOf P n) 0 fs.toList with
      | some l => bif Nat.beq l.length (P.cellsOf t) then some l else none
      | none => none
    | _ => none
/-- A tree has a shape. -/
def ShT : T → Sh → Prop
  | .int k n, s => s = .int k ∧ (Lit.int k n).wf = true
  | .bool _, s => s = .bool
  | .arr m n f, s => ∃ ss, s = .arr ss ∧ m = ss.length ∧ n ≤ F.ZM ∧ (∀ j, j < n → ∀ k s', ss[k]? = some s' → ShT (f j k) s') ∧ ∀ j k, (n ≤ j ∨ m ≤ k) → f j k = .hole
  | _, _ => False
def Cl (w : World) (N : Nat → Prop) (ts : List T) (ss : List Sh) (cs : List Value) : Prop :=
  ts.length = ss.length ∧ cs.length = ss.length ∧ ∀ (k : Nat) s, ss[k]? = some s → ∃ t v, ts[k]? = some t ∧ cs[k]? = some v ∧ ShT t s ∧ RelIm w N t v
theorem Cl.nil {w N} : Cl w N [] [] [] := ⟨rfl, rfl, fun k s h => by simp at h⟩
theorem Cl.one {w N t s v} (h : ShT t s) (h' : RelIm w N t v) : Cl w N [t] [s] [v] := ⟨rfl, rfl, fun k s' hk => by
  cases k with
  | zero => simp at hk; subst hk; exact ⟨t, v, rfl, rfl, h, h'⟩
  | succ k => simp at hk⟩
theorem Cl.append {w N ts ss cs ts' ss' cs'} (h : Cl w N ts ss cs) (h' : Cl w N ts' ss' cs') : Cl w N (ts ++ ts') (ss ++ ss') (cs ++ cs') := by
  refine ⟨by simp [h.1, h'.1], by simp [h.2.1, h'.2.1], fun k s hk => ?_⟩
  by_cases hl : k < ss.length
  · rw [List.getElem?_append_left hl] at hk
    rw [List.getElem?_append_left (by rw [h.1]; exact hl), List.getElem?_append_left (by rw [h.2.1]; exact hl)]
    exact h.2.2 k s hk
  · rw [List.getElem?_append_right (by omega)] at hk
    rw [List.getElem?_append_right (by rw [h.1]; omega), List.getElem?_append_right (by rw [h.2.1]; omega), h.1, h.2.1]
    exact h'.2.2 _ s hk
section
variable {H : Type} {enc : TypeId × Value → H} {P : Program} {w : World} {base : Nat} {spare : Nat → Bool} {held : Bool} {N : Nat → Prop}
/-- What is needed of a told value. -/
def Fit (P : Program) (N : Nat → Prop) (t : TypeId) (x : DataW H × List MemPlace) : Prop := (∀ p ∈ x.2, N p.block) ∧ ∀ m ∈ x.1.weights P t, m ≤ reachBytes
theorem weightsAll_mem {e : TypeId} : ∀ {ds : List (DataW H)} {j : Nat} {d : DataW H}, ds[j]? = some d → ∀ n ∈ d.weights P e, n ∈ DataW.weightsAll P e ds
  | d0 :: ds, 0, d, hd, n, hn => by
    simp only [List.getElem?_cons_zero, Option.some.injEq] at hd
    subst hd
    simp only [DataW.weightsAll, List.mem_append]
    exact .inl hn
  | d0 :: ds, j + 1, d, hd, n, hn => by
    simp only [List.getElem?_cons_succ] at hd
    simp only [DataW.weightsAll, List.mem_append]
    exact .inr (weightsAll_mem hd n hn)
  | [], _, _, hd, _, _ => by simp at hd
theorem reach_zm {n b : Nat} (h : n * b ≤ reachBytes) (hb : 0 < b) : n ≤ F.ZM := by
  have := reachBytes_lt
  have hz := F.zm
  have : n * 1 ≤ n * b := Nat.mul_le_mul_left n hb
  omega
theorem open_fs {sub : TypeId → Option (List Sh)} {tr : TypeId → List Value → Option (DataW H × List MemPlace)}
    (hsub : ∀ t ss cs x, sub t = some ss → tr t cs = some x → Fit P N t x → ∃ ts, Cl w N ts ss cs) (cs : List Value) :
    ∀ (fs : List Field) (o : Nat) (ss : List Sh), shFs P sub o fs = some ss → (∀ (i : Nat) (f : Field), fs[i]? = some f → ∃ x, tr f.type ((cs.drop f.offset).take (P.cellsOf f.type)) = some x ∧ Fit P N f.type x) →
      ∃ ts, Cl w N ts ss ((cs.drop o).take ss.length)
  | [], o, ss, h, _ => by
    simp only [shFs, Option.some.injEq] at h
    subst h
    exact ⟨[], by simpa using Cl.nil⟩
  | f :: fs, o, ss, h, hx => by
    unfold shFs at h
    cases ho : Nat.beq f.offset o with
    | false => simp [ho] at h
    | true =>
      simp only [ho, cond_true] at h
      cases ha : sub f.type with
      | none => simp [ha] at h
      | some a =>
        simp only [ha] at h
        cases hl : Nat.beq a.length (P.cellsOf f.type) with
        | false => simp [hl] at h
        | true =>
          simp only [hl, cond_true] at h
          cases hr : shFs P sub (o + a.length) fs with
          | none => simp [hr] at h
          | some r =>
            simp only [hr, Option.some.injEq] at h
            subst h
            obtain ⟨x, hx0, hf⟩ := hx 0 f rfl
            obtain ⟨ts, hts⟩ := hsub f.type a _ x ha hx0 hf
            obtain ⟨tr', htr⟩ := open_fs hsub cs fs (o + a.length) r hr fun i f' hi => hx (i + 1) f' (by simpa using hi)
            have e1 := Nat.eq_of_beq_eq_true ho
            have e2 := Nat.eq_of_beq_eq_true hl
            rw [← e2, e1] at hts
            refine ⟨ts ++ tr', ?_⟩
            have := hts.append htr
            rw [List.length_append, List.take_add]
            rw [List.drop_drop]
            exact this
theorem weightsEach_mem : ∀ {ts : List TypeId} {ds : List (DataW H)} {j : Nat} {t : TypeId} {d : DataW H}, ts[j]? = some t → ds[j]? = some d → ∀ n ∈ d.weights P t, n ∈ DataW.weightsEach P ts ds := DataW.weights_mem_each
theorem row_mem {a : Addr} {n : Nat} {N : Nat → Prop} (h : ∀ p ∈ MemPlace.row a n, N p.block) (hn : 0 < n) : N a.block :=
  h (.cell a.block (a.off + 0)) (List.mem_map.2 ⟨0, by simp; omega, rfl⟩)
theorem open_im : ∀ (n : Nat) (t : TypeId) (ss : List Sh), shOf P n t = some ss → ∀ (fuel : Nat) (cs : List Value) (x : DataW H × List MemPlace), DataW.trod enc P w base spare held fuel t cs = some x → Fit P N t x → ∃ ts, Cl w N ts ss cs
  | 0, _, _, h, _, _, _, _, _ => by simp [shOf] at h
  | n + 1, t, ss, h, fuel, cs, x, hx, hf => by
    unfold shOf at h
    split at h
    case h_1 hu =>
      simp only [Option.some.injEq] at h
      subst h
      obtain ⟨b, rfl, _⟩ := DataW.trod_bool hu hx
      exact ⟨[.bool b], .one rfl rfl⟩
    case h_2 k hu =>
      simp only [Option.some.injEq] at h
      subst h
      obtain ⟨m, rfl, _, hw⟩ := DataW.trod_int hu hx
      exact ⟨[.int k m], .one ⟨rfl, hw⟩ rfl⟩
    case h_3 e hu =>
      cases hl : shOf P n e with
      | none => simp [hl] at h
      | some l =>
        simp only [hl] at h
        cases hb : (Nat.beq l.length (P.cellsOf e) && Nat.blt 0 (P.bytesOf e) && Nat.blt 0 l.length) with
        | false => simp [hb] at h
        | true =>
          simp only [hb, cond_true, Option.some.injEq] at h
          subst h
          simp only [Bool.and_eq_true, Nat.blt_eq] at hb
          obtain ⟨⟨h1, h2⟩, h3⟩ := hb
          have h1 := Nat.eq_of_beq_eq_true h1
          rcases DataW.trod_slice hu hx with ⟨rfl, rfl⟩ | ⟨a, len, cap, elems, rest, m, rfl, rfl, rfl, hba, hlc, hcap, hel, hat, _, _⟩
          · exact ⟨[.arr l.length 0 fun _ _ => .hole], .one ⟨l, rfl, rfl, Nat.zero_le _, fun j hj => by omega, fun _ _ _ => rfl⟩ ⟨none, 0, rfl, Nat.le_refl _, fun h => by omega⟩⟩
          · obtain ⟨hp, hw⟩ := hf
            dsimp only at hp hw
            simp only [DataW.weights, hu, List.mem_cons, List.mem_append, List.length_map] at hw
            have hlen : len ≤ F.ZM := by
              have := reach_zm (hw _ (.inl rfl)) h2
              omega
            have key : ∀ i, ∃ ts, i < len → ∃ csi, w.cells? base (a.add (i * P.cellsOf e)) (P.cellsOf e) = some csi ∧ Cl w N ts l csi := fun i => by
              by_cases hi : i < len
              · have h4 := hat i hi
                have hxi := List.getElem?_eq_getElem (show i < elems.length by omega)
                rw [hxi] at h4
                obtain ⟨csi, h5, h6⟩ := Option.bind_eq_some_iff.1 h4
                have hfi : Fit P N e elems[i] := by
                  refine ⟨fun p hp' => hp p (List.mem_append_right _ (List.mem_flatMap.2 ⟨elems[i], List.mem_append_left _ (List.getElem_mem _), hp'⟩)), fun m' hm' => hw m' (.inr (.inl ?_))⟩
                  exact weightsAll_mem (j := i) (d := elems[i].1) (by rw [List.getElem?_map, hxi]; rfl) _ hm'
                obtain ⟨ts, hts⟩ := open_im n e l hl m csi _ h6 hfi
                exact ⟨ts, fun _ => ⟨csi, h5, hts⟩⟩
              · exact ⟨[], fun h => absurd h hi⟩
            obtain ⟨g, hg⟩ := Classical.axiomOfChoice key
            refine ⟨[.arr l.length len fun j k => if j < len then (g j).getD k .hole else .hole], .one ⟨l, rfl, rfl, hlen, fun j hj k s' hs => ?_, fun j k hjk => ?_⟩ ⟨some a, cap, rfl, hlc, fun h0 => ?_⟩⟩
            · simp only [hj, if_true]
              obtain ⟨csj, _, hcl⟩ := hg j hj
              obtain ⟨t', v', ht', _, hsh, _⟩ := hcl.2.2 k s' hs
              rw [List.getD_eq_getElem?_getD, ht']
              exact hsh
            · by_cases hj : j < len
              · simp only [hj, if_true]
                obtain ⟨csj, _, hcl⟩ := hg j hj
                rw [List.getD_eq_getElem?_getD, List.getElem?_eq_none (by rw [hcl.1]; omega)]
                rfl
              · simp only [hj, if_false]
            · have hpos : 0 < (elems.length + rest.length) * P.cellsOf e := Nat.mul_pos (by omega) (by omega)
              have hN : N a.block := row_mem (fun p hp' => hp p (List.mem_append_left _ hp')) hpos
              obtain ⟨cs0, hc0, hcl0⟩ := hg 0 h0
              obtain ⟨_, hlen0, hcell0⟩ := World.cells?_some hc0
              have g0 := hcell0 0 (by omega)
              have hsp : a.spot = none := by
                obtain ⟨v0, hv0⟩ : ∃ v0, cs0[0]? = some v0 := ⟨_, List.getElem?_eq_getElem (by omega)⟩
                rw [hv0] at g0
                have := World.cell?_spot g0
                simpa [Addr.add] using this
              obtain ⟨b, off, sp⟩ := a
              dsimp only at hsp
              subst hsp
              refine ⟨b, off, rfl, hN, fun j hj k hk => ?_⟩
              simp only [hj, if_true]
              obtain ⟨csj, hcj, hcl⟩ := hg j hj
              obtain ⟨_, hlenj, hcellj⟩ := World.cells?_some hcj
              obtain ⟨t', v', ht', hv', _, him⟩ := hcl.2.2 k l[k] (List.getElem?_eq_getElem hk)
              have hc := hcellj k (by omega)
              rw [WideShapes.add_plain, WideShapes.add_plain, hv'] at hc
              refine ⟨v', ?_, by rw [List.getD_eq_getElem?_getD, ht']; exact him⟩
              rw [show off + (j * l.length + k) = off + j * P.cellsOf e + k by rw [h1]; omega]
              exact hc
    case h_4 fs hu =>
      cases hl : shFs P (shOf P n) 0 fs.toList with
      | none => simp [hl] at h
      | some l =>
        simp only [hl] at h
        cases hb : Nat.beq l.length (P.cellsOf t) with
        | false => simp [hb] at h
        | true =>
          simp only [hb, cond_true, Option.some.injEq] at h
          subst h
          have hb := Nat.eq_of_beq_eq_true hb
          obtain ⟨xs, m, rfl, rfl, hlen, hxl, hget⟩ := DataW.trod_struct hu hx
          obtain ⟨hp, hw⟩ := hf
          dsimp only at hp hw
          simp only [DataW.weights, hu] at hw
          obtain ⟨ts, hts⟩ := open_fs (P := P) (w := w) (N := N) (sub := shOf P n) (tr := DataW.trod enc P w base spare held m) (fun t' ss' cs' x' h1 h2 h3 => open_im n t' ss' h1 m cs' x' h2 h3) cs fs.toList 0 l hl fun i f hi => by
            have hi' : fs[i]? = some f := by simpa using hi
            have hil : i < fs.size := (Array.getElem?_eq_some_iff.1 hi').1
            have hx' := hget i f hi'
            have hxi := List.getElem?_eq_getElem (show i < xs.length by omega)
            rw [hxi] at hx'
            refine ⟨_, hx', fun p hp' => hp p (List.mem_flatMap.2 ⟨xs[i], List.getElem_mem _, hp'⟩), fun m' hm' => hw m' ?_⟩
            exact DataW.weights_mem_each (j := i) (t := f.type) (d := xs[i].1) (by simp [hi']) (by simp [hxi]) _ hm'
          refine ⟨ts, ?_⟩
          rw [List.drop_zero, hb, ← hlen, List.take_length] at hts
          exact hts
    case h_5 => cases h
end
/-! ### arguments -/
def D0 : Nat → Prop := Dof fun _ => noG
theorem not_D0 (b : Nat) : ¬ D0 b := fun ⟨_, _, _, _, h, _⟩ => by cases h
def ShTs : List T → List Sh → Prop
  | [], [] => True
  | t :: ts, s :: ss => ShT t s ∧ ShTs ts ss
  | _, _ => False
theorem Cl.shts {w N} : ∀ {ts ss cs}, Cl w N ts ss cs → ShTs ts ss
  | [], [], _, _ => trivial
  | [], s :: ss, _, h => by have := h.1; simp at this
  | t :: ts, [], _, h => by have := h.1; simp at this
  | t :: ts, s :: ss, [], h => by have := h.2.1; simp at this
  | t :: ts, s :: ss, c :: cs, h => by
    refine ⟨?_, Cl.shts (w := w) (N := N) (ts := ts) (ss := ss) (cs := cs) ⟨by simpa using h.1, by simpa using h.2.1, fun k s' hk => ?_⟩⟩
    · obtain ⟨t', v', ht, _, hs, _⟩ := h.2.2 0 s rfl
      simp at ht
      subst ht
      exact hs
    · obtain ⟨t', v', ht, hv, hs, hr⟩ := h.2.2 (k + 1) s' (by simpa using hk)
      exact ⟨t', v', by simpa using ht, by simpa using hv, hs, hr⟩
section
variable {H : Type} {enc : TypeId × Value → H} {P : Program} {W : World}
theorem open_row {n : Nat} {t : TypeId} {ss : List Sh} {vs : Array Value} {d : DataW H} {ps : List MemPlace} (hs : shOf P n t = some ss) (h : DataW.Trod enc P W 0 (fun _ => true) true t (.agg vs) d ps) (hlt : ∀ x ∈ ps, x.block < W.heap.size) (hw : ∀ m ∈ d.weights P t, m ≤ reachBytes) :
    ∃ ts, ShTs ts ss ∧ ArgRow W D0 (F.aR ts).2 (.agg vs) := by
  obtain ⟨fuel, hf⟩ := h
  obtain ⟨ts, hts⟩ := open_im (N := fun b => b < W.heap.size) n t ss hs fuel _ (d, ps) hf ⟨hlt, hw⟩
  refine ⟨ts, hts.shts, fun G V => ⟨vs, rfl, ?_, fun k c hk => ?_⟩⟩
  · have h1 := hts.1
    have h2 := hts.2.1
    simp only [Value.cells, Array.length_toList] at h2
    simp only [F.aR, List.length_map]
    omega
  · simp only [F.aR, List.getElem?_map, Option.map_eq_some_iff] at hk
    obtain ⟨t', ht', rfl⟩ := hk
    have hk : k < ss.length := by rw [← hts.1]; exact (List.getElem?_eq_some_iff.1 ht').1
    obtain ⟨t2, v, h1, h2, _, him⟩ := hts.2.2 k ss[k] (List.getElem?_eq_getElem hk)
    rw [ht'] at h1
    cases h1
    simp only [Value.cells, Array.getElem?_toList] at h2
    refine ⟨v, h2, ?_⟩
    have e : (calleeEnv W D0).N = fun b => b < W.heap.size := by
      funext b
      simp only [Env.N, calleeEnv, not_D0, not_false_eq_true, and_true]
    show RelIm W (calleeEnv W D0).N t' v
    rw [e]
    exact him
theorem open_cell {n : Nat} {t : TypeId} {s : Sh} {v : Value} {d : DataW H} {ps : List MemPlace} (hv : v.cells = #[v]) (hs : shOf P n t = some [s]) (h : DataW.Trod enc P W 0 (fun _ => true) true t v d ps) (hlt : ∀ x ∈ ps, x.block < W.heap.size) (hw : ∀ m ∈ d.weights P t, m ≤ reachBytes) :
    ∃ t', ShT t' s ∧ ArgRow W D0 (F.aT t').2 v := by
  obtain ⟨fuel, hf⟩ := h
  rw [hv] at hf
  obtain ⟨ts, hts⟩ := open_im (N := fun b => b < W.heap.size) n t [s] hs fuel _ (d, ps) hf ⟨hlt, hw⟩
  obtain ⟨t', v', h1, h2, h3, him⟩ := hts.2.2 0 s rfl
  simp at h2
  subst h2
  refine ⟨t', h3, fun G V => ?_⟩
  have e : (calleeEnv W D0).N = fun b => b < W.heap.size := by
    funext b
    simp only [Env.N, calleeEnv, not_D0, not_false_eq_true, and_true]
  show RelIm W (calleeEnv W D0).N t' v
  rw [e]
  exact him
end
/-! ### the arguments together -/
theorem args_x {w : World} {args : List Arg} {vals : Array Value} (hs : vals.size = args.length) (h : ∀ (i : Nat) x, args[i]? = some x → x.1 = 0 ∧ ∃ u, vals[i]? = some u ∧ ArgRow w D0 x.2 u) : ArgsX w args vals fun _ => noG where
  size := hs
  inj := fun i p i' p' ad c ad' c' h => by cases h
  rng := fun i p ad c h => by cases h
  arg := fun i x hi => by
    obtain ⟨h0, u, hu, hr⟩ := h i x hi
    refine ⟨u, hu, ?_⟩
    unfold ArgOk
    rw [if_neg (by omega), if_neg (by omega)]
    exact hr
theorem GrewD.below {w w' : World} (h : GrewD w w' D0) : RowKit.Below w.heap.size w w' := ⟨h.os, h.tape, h.output, h.size, fun b hb => h.old b hb (not_D0 b)⟩
theorem res_bool {w w' : World} {γ : Nat → Gh} {args vals k b v δ} (h : ResX w w' γ args vals (F.erB k b).1 (F.erB k b).2 v δ) : v = .bool b := h.res (calleeEnv w D0) (fun _ => noG) fun _ => z0
/-! ### shapes of lists -/
namespace F
theorem sh_int {t : T} {k : IntKind} (h : ShT t (.int k)) : ∃ n, t = .int k n ∧ (Lit.int k n).wf = true := by
  cases t <;> simp only [ShT] at h
  · obtain ⟨h, hw⟩ := h
    cases h
    exact ⟨_, rfl, hw⟩
  · cases h
  · obtain ⟨_, h, _⟩ := h
    cases h
theorem sh_bool {t : T} (h : ShT t .bool) : ∃ b, t = .bool b := by
  cases t <;> simp only [ShT] at h
  · obtain ⟨h, hw⟩ := h
    cases h
  · exact ⟨_, rfl⟩
  · obtain ⟨_, h, _⟩ := h
    cases h
theorem sh_list {α : Type} {row : α → List T} {ss : List Sh} (ok : α → Prop) (hrow : ∀ x, (row x).length = ss.length) (hc : ∀ ts, ShTs ts ss → ∃ x, ts = row x ∧ ok x) {t : T} (h : ShT t (.arr ss)) :
    ∃ l : List α, t = eL ss.length row l ∧ l.length ≤ ZM ∧ ∀ x ∈ l, ok x := by
  cases t <;> simp only [ShT] at h
  · obtain ⟨h, hw⟩ := h
    cases h
  · cases h
  rename_i m n f
  obtain ⟨ss', h1, rfl, hn, hin, hout⟩ := h
  cases h1
  have hts : ∀ j, j < n → ShTs ((List.range ss.length).map (f j)) ss := by
    intro j hj
    have key : ∀ (l : List Sh) (o : Nat), (∀ k s', l[k]? = some s' → ShT (f j (o + k)) s') → ShTs ((List.range' o l.length).map (f j)) l := by
      intro l
      induction l with
      | nil => intro o _; trivial
      | cons s l ih =>
        intro o hl
        simp only [List.length_cons, List.range'_succ, List.map_cons]
        refine ⟨hl 0 s rfl, ih (o + 1) fun k s' hk => ?_⟩
        have := hl (k + 1) s' (by simpa using hk)
        rwa [show o + (k + 1) = o + 1 + k by omega] at this
    rw [List.range_eq_range']
    exact key ss 0 fun k s' hk => by rw [Nat.zero_add]; exact hin j hj k s' hk
  have hx : ∀ j, ∃ o : Option α, j < n → ∃ x, o = some x ∧ (List.range ss.length).map (f j) = row x ∧ ok x := fun j => by
    by_cases hj : j < n
    · obtain ⟨x, h1, h2⟩ := hc _ (hts j hj)
      exact ⟨some x, fun _ => ⟨x, rfl, h1, h2⟩⟩
    · exact ⟨none, fun h => absurd h hj⟩
  obtain ⟨g, hg⟩ := Classical.axiomOfChoice hx
  have hl : ∀ i, i ≤ n → ∃ l : List α, l.length = i ∧ ∀ j, j < i → l[j]? = g j := by
    intro i
    induction i with
    | zero => exact fun _ => ⟨[], rfl, fun j hj => by omega⟩
    | succ i ih =>
      intro hi
      obtain ⟨l, h1, h2⟩ := ih (by omega)
      obtain ⟨x, h3, _⟩ := hg i (by omega)
      refine ⟨l ++ [x], by simp [h1], fun j hj => ?_⟩
      by_cases hj' : j < i
      · rw [List.getElem?_append_left (by omega)]; exact h2 j hj'
      · have : j = i := by omega
        subst this
        rw [List.getElem?_append_right (by omega), h1, h3]
        simp
  obtain ⟨l, h1, h2⟩ := hl n (Nat.le_refl _)
  refine ⟨l, eL_ext h1.symm fun j k => ?_, by omega, fun x hx => ?_⟩
  · by_cases hj : j < n
    · obtain ⟨x, h3, h4, _⟩ := hg j hj
      rw [h2 j hj, h3]
      dsimp only
      by_cases hk : k < ss.length
      · rw [← h4, List.getD_eq_getElem?_getD, List.getElem?_map, List.getElem?_range hk]
        rfl
      · rw [hout j k (.inr (by omega)), List.getD_eq_getElem?_getD, List.getElem?_eq_none (by rw [hrow]; omega)]
        rfl
    · rw [List.getElem?_eq_none (by omega)]
      exact hout j k (.inl (by omega))
  · obtain ⟨j, hj, rfl⟩ := List.getElem_of_mem hx
    obtain ⟨y, h3, _, h5⟩ := hg j (by omega)
    have := h2 j (by omega)
    rw [List.getElem?_eq_getElem hj, h3] at this
    cases this
    exact h5
theorem shs_nil {ts : List T} (h : ShTs ts []) : ts = [] := by cases ts with | nil => rfl | cons _ _ => exact h.elim
theorem shs_cons {ts : List T} {s ss} (h : ShTs ts (s :: ss)) : ∃ t ts', ts = t :: ts' ∧ ShT t s ∧ ShTs ts' ss := by cases ts with | nil => exact h.elim | cons t ts => exact ⟨t, ts, rfl, h⟩
theorem sh_LI {t : T} (h : ShT t (.arr [.int .i64])) : ∃ l : List Int, t = eI l ∧ l.length ≤ ZM := by
  obtain ⟨l, h1, h2, _⟩ := sh_list (row := rowI) (fun _ => True) (fun _ => rfl) (fun ts hts => by
    obtain ⟨t, ts', rfl, h1, h2⟩ := shs_cons hts
    obtain rfl := shs_nil h2
    obtain ⟨n, rfl, _⟩ := sh_int h1
    exact ⟨n, rfl, trivial⟩) h
  exact ⟨l, h1, h2⟩
theorem sh_LB {t : T} (h : ShT t (.arr [.int .u8])) : ∃ l : List UInt8, t = eB l ∧ l.length ≤ ZM := by
  obtain ⟨l, h1, h2, _⟩ := sh_list (row := rowB) (fun _ => True) (fun _ => rfl) (fun ts hts => by
    obtain ⟨t, ts', rfl, h1, h2⟩ := shs_cons hts
    obtain rfl := shs_nil h2
    obtain ⟨n, rfl, hw⟩ := sh_int h1
    have hn : IntKind.u8.min ≤ n ∧ n ≤ IntKind.u8.max := by simpa [Lit.wf] using hw
    rw [show IntKind.u8.min = 0 from rfl, show IntKind.u8.max = 255 from rfl] at hn
    refine ⟨UInt8.ofNat n.toNat, ?_, trivial⟩
    simp only [rowB, UInt8.toNat_ofNat']
    congr 2
    omega) h
  exact ⟨l, h1, h2⟩
end F
end Go.Mach
