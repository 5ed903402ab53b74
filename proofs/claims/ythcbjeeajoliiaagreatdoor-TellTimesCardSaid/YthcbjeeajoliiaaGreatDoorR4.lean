/- Regions that draw their order, walked by a plan; several operations at the end (which all others come ahead of) may turn what the others read. -/
import Derived.Test.YthcbjeeajoliiaaGreatDoorR3
set_option linter.unusedVariables false
namespace Go.Proofs.YthcbjeeajoliiaaGreatDoor
open Go.RowKit

/-- Has one of zs come up? -/
def zUp (zs : List Nat) (listed : Array Bool) : Bool := zs.any fun z => listed.getD z false
/-- Do all of zs wait for i? -/
def zWait (ops : Array Oper) (zs : List Nat) (i : Nat) : Bool := zs.all fun z => waitsOn ops z i

theorem zUp_set {i : Nat} (listed : Array Bool) : ∀ {zs : List Nat}, zs.contains i = false → zUp zs (listed.setIfInBounds i true) = zUp zs listed
  | [], _ => rfl
  | z :: zs, h => by
    simp only [List.contains_cons, Bool.or_eq_false_iff, beq_eq_false_iff_ne] at h
    have ih := zUp_set (i := i) listed h.2
    unfold zUp at ih ⊢
    simp only [List.any_cons]
    rw [ih, getD_set_ne false h.1]

section
variable {P : Program} {ops : Array Oper} {Q : Exit → Act → World → Prop} {zs : List Nat} {S : World → Prop}

def wpAnyY (P : Program) (zs : List Nat) (ops : Array Oper) (Q : Exit → Act → World → Prop) (S : World → Prop) : Nat → Array Bool → Act → World → Prop
  | 0, listed, a, w => Region.ready .any ops listed = [] ∧ Q .normal a w
  | fuel + 1, listed, a, w =>
    (Region.ready .any ops listed = [] → Q .normal a w) ∧
    ∀ i ∈ Region.ready .any ops listed, wpOp P ops Q i (fun a' w' => (zUp zs (listed.setIfInBounds i true) = true ∨ S w') ∧ wpAnyY P zs ops Q S fuel (listed.setIfInBounds i true) a' w') a w

theorem wpAny_of_y : ∀ (fuel : Nat) (listed : Array Bool) (a : Act) (w : World), wpAnyY P zs ops Q S fuel listed a w → wpAny P .any ops Q fuel listed a w
  | 0, _, _, _, h => h
  | fuel + 1, _, _, _, h => ⟨h.1, fun i hi => wpOp_mono (fun a' w' h' => wpAny_of_y fuel _ a' w' h'.2) (h.2 i hi)⟩

theorem wpAnyY_mono {S' : World → Prop} (hS : ∀ w, S' w → S w) : ∀ (fuel : Nat) (listed : Array Bool) (a : Act) (w : World),
    wpAnyY P zs ops Q S' fuel listed a w → wpAnyY P zs ops Q S fuel listed a w
  | 0, _, _, _, h => h
  | fuel + 1, _, _, _, h => ⟨h.1, fun i hi => wpOp_mono (fun a' w' h' => ⟨h'.1.imp id (hS _), wpAnyY_mono hS fuel _ a' w' h'.2⟩) (h.2 i hi)⟩

theorem zUp_has {j : Nat} {listed : Array Bool} (hz : zs.contains j = true) (hl : j < listed.size) : zUp zs (listed.setIfInBounds j true) = true := by
  unfold zUp
  rw [List.any_eq_true]
  exact ⟨j, by simpa using hz, by simp [hl]⟩

theorem zUp_mono {i : Nat} {listed : Array Bool} (h : zUp zs listed = true) : zUp zs (listed.setIfInBounds i true) = true := by
  unfold zUp at h ⊢
  rw [List.any_eq_true] at h ⊢
  obtain ⟨z, hz, h⟩ := h
  exact ⟨z, hz, getD_set_true h⟩

/-- When none is up any more, whatever the world: from a state in which one of zs is up, S is asked no more. -/
theorem wpAnyY_up {S' : World → Prop} : ∀ (fuel : Nat) (listed : Array Bool) (a : Act) (w : World), zUp zs listed = true →
    wpAnyY P zs ops Q S' fuel listed a w → wpAnyY P zs ops Q S fuel listed a w
  | 0, _, _, _, _, h => h
  | fuel + 1, _, _, _, hu, h => ⟨h.1, fun i hi => wpOp_mono (fun a' w' h' => ⟨.inl (zUp_mono hu), wpAnyY_up fuel _ a' w' (zUp_mono hu) h'.2⟩) (h.2 i hi)⟩

theorem wpAnyY_first {i : Nat} {oi : Oper} {v : Value} (hi : ops[i]? = some oi) (hiz : zs.contains i = false) (hsel : ∀ (j : Nat) (o : Oper) cs b, ops[j]? = some o → o.op ≠ .select cs b)
    (hQ : ∀ c a w, Q (.panic c) (a.put oi.dst v) w → Q (.panic c) a w) :
    ∀ (fuel : Nat) (listed : Array Bool) (a : Act) (w : World),
      (∀ j oj, ops[j]? = some oj → j ≠ i → listed.getD j true = false → (∀ e ∈ oj.after, Region.binds .any e = true → e.on ≠ i) → oi.apart ops oj = true) →
      i ∈ Region.ready .any ops listed → YieldsIf P ops (fun w => S w ∨ zWait ops zs i = false) oi v a → (S w ∨ zWait ops zs i = false) → (zUp zs listed = true → zWait ops zs i = false) →
      (zUp zs listed = true ∨ S w) →
      wpAnyY P zs ops Q S fuel (listed.setIfInBounds i true) (a.put oi.dst v) w → wpAnyY P zs ops Q S (fuel + 1) listed a w := by
  have hsame : ∀ listed : Array Bool, zUp zs (listed.setIfInBounds i true) = zUp zs listed := fun l => zUp_set l hiz
  intro fuel
  induction fuel with
  | zero =>
    intro listed a w _ hr hy hS hzl hS0 H
    refine ⟨fun h => (by rw [h] at hr; cases hr), fun j hj => ?_⟩
    by_cases hji : j = i
    · subst hji; exact hy.wpOp hi hS ⟨by rw [hsame]; exact hS0, H⟩
    · have := ready_mono hj hji
      rw [H.1] at this
      cases this
  | succ fuel ih =>
    intro listed a w hfree hr hy hS hzl hS0 H
    refine ⟨fun h => (by rw [h] at hr; cases hr), fun j hj => ?_⟩
    by_cases hji : j = i
    · subst hji; exact hy.wpOp hi hS ⟨by rw [hsame]; exact hS0, H⟩
    · have h1 := H.2 j (ready_mono hj hji)
      obtain ⟨hjun, oj, hoj, hall⟩ := mem_ready.1 hj
      have hnot : ∀ e ∈ oj.after, Region.binds .any e = true → e.on ≠ i := fun e he hb heq => by
        have h1 := hall e he hb
        have h0 := (mem_ready.1 hr).1
        rw [heq] at h1
        rcases Nat.lt_or_ge i listed.size with h' | h'
        · simp [h'] at h0 h1; rw [h0] at h1; cases h1
        · simp [Array.getElem?_eq_none h'] at h1
      have hz : zs.contains j = true → zWait ops zs i = false := by
        intro hjz
        have hw : waitsOn ops j i = false := by
          unfold waitsOn
          rw [hoj]
          simp only [Option.map_some, Option.getD_some]
          rw [Array.any_eq_false]
          intro q hq
          simp only [Bool.and_eq_true, beq_iff_eq, not_and]
          intro hb
          exact hnot _ (Array.getElem_mem hq) hb
        unfold zWait
        rw [List.all_eq_false]
        exact ⟨j, by simpa using hjz, by rw [hw]; simp⟩
      have h2 := wpOp_putIf hoj (hfree j oj hoj hji hjun hnot) (fun cs b => hsel i oi cs b hi) (fun cs b => hsel j oj cs b hoj) hQ hy h1
      have hfree' : ∀ k ok, ops[k]? = some ok → k ≠ i → (listed.setIfInBounds j true).getD k true = false →
          (∀ e ∈ ok.after, Region.binds .any e = true → e.on ≠ i) → oi.apart ops ok = true := fun k ok hk hki hun hno => by
        refine hfree k ok hk hki ?_ hno
        by_cases hjk : j = k
        · subst hjk; exact hjun
        · rw [getD_set_ne true hjk] at hun; exact hun
      have hzl' : zUp zs (listed.setIfInBounds j true) = true → zWait ops zs i = false := fun h => by
        cases hjz : zs.contains j with
        | true => exact hz hjz
        | false =>
          rw [zUp_set _ hjz] at h
          exact hzl h
      have hcur : ∀ w', (zUp zs ((listed.setIfInBounds i true).setIfInBounds j true) = true ∨ S w') → (zUp zs (listed.setIfInBounds j true) = true ∨ S w') := fun w' h => by
        rw [Array.setIfInBounds_comm _ _ (Ne.symm hji), hsame] at h
        exact h
      refine wpOp_mono (fun a' w' h3 => ⟨hcur w' h3.2.1, ih (listed.setIfInBounds j true) a' w' hfree' (ready_mono hr (Ne.symm hji)) h3.1 ((hcur w' h3.2.1).elim (fun h => .inr (hzl' h)) .inl) hzl' (hcur w' h3.2.1) ?_⟩) h2
      rw [Array.setIfInBounds_comm _ _ hji]
      exact h3.2.2

theorem wpAnyY_take {i : Nat} {oi : Oper} {v : Value} {fuel : Nat} {listed : Array Bool} {a : Act} {w : World} (hi : ops[i]? = some oi) (hiz : zs.contains i = false)
    (hs : Region.noSelect ops = true) (hf : Region.free .any ops listed i = true) (hr : (Region.ready .any ops listed).contains i = true) (hl : zUp zs listed = false)
    (hQ : ∀ c a w, Q (.panic c) (a.put oi.dst v) w → Q (.panic c) a w) (hy : YieldsIf P ops (fun w => S w ∨ zWait ops zs i = false) oi v a) (hS : S w)
    (h : wpAnyY P zs ops Q S fuel (listed.setIfInBounds i true) (a.put oi.dst v) w) : wpAnyY P zs ops Q S (fuel + 1) listed a w :=
  wpAnyY_first hi hiz (Region.noSelect_spec hs) hQ fuel listed a w (Region.free_spec hi hf) (by simpa using hr) hy (.inl hS) (fun h => by rw [hl] at h; cases h) (.inr hS) h
end

inductive PY where
  | read (i : Nat) (rest : PY)
  | pure (i : Nat) (rest : PY)
  | eff (i : Nat) (rest : PY)
  | late (i : Nat) (rest : PY)
  | plate (i : Nat) (rest : PY)
  | nil
inductive SY where
  | read (o : Oper) (rest : SY)
  | pure (o : Oper) (rest : SY)
  | eff (o : Oper) (rest : SY)
  | late (o : Oper) (rest : SY)
  | nil
def PY.len : PY → Nat
  | .read _ r => r.len + 1
  | .pure _ r => r.len + 1
  | .eff _ r => r.len + 1
  | .late _ r => r.len + 1
  | .plate _ r => r.len + 1
  | .nil => 0

section
variable {P : Program} {ops : Array Oper} {Q : Exit → Act → World → Prop} {zs : List Nat}
def yOk (zs : List Nat) (ops : Array Oper) : Array Bool → PY → Bool
  | listed, .read i r => !zs.contains i && !zUp zs listed && zWait ops zs i && Region.free .any ops listed i && (Region.ready .any ops listed).contains i && yOk zs ops (listed.setIfInBounds i true) r
  | listed, .pure i r => !zs.contains i && !zUp zs listed && Region.free .any ops listed i && (Region.ready .any ops listed).contains i && yOk zs ops (listed.setIfInBounds i true) r
  | listed, .eff i r => (Region.ready .any ops listed == [i]) && yOk zs ops (listed.setIfInBounds i true) r
  | listed, .late i r => zs.contains i && decide (i < listed.size) && (Region.ready .any ops listed == [i]) && yOk zs ops (listed.setIfInBounds i true) r
  | listed, .plate i r => !zs.contains i && zUp zs listed && !zWait ops zs i && Region.free .any ops listed i && (Region.ready .any ops listed).contains i && yOk zs ops (listed.setIfInBounds i true) r
  | listed, .nil => (Region.ready .any ops listed).isEmpty
def yOf (ops : Array Oper) : PY → Option SY
  | .read i r => match ops[i]?, yOf ops r with
    | some o, some s => some (.read o s)
    | _, _ => none
  | .pure i r => match ops[i]?, yOf ops r with
    | some o, some s => some (.pure o s)
    | _, _ => none
  | .eff i r => match ops[i]?, yOf ops r with
    | some o, some s => some (.eff o s)
    | _, _ => none
  | .late i r => match ops[i]?, yOf ops r with
    | some o, some s => some (.late o s)
    | _, _ => none
  | .plate i r => match ops[i]?, yOf ops r with
    | some o, some s => some (.pure o s)
    | _, _ => none
  | .nil => some .nil
def wpSY (P : Program) (ops : Array Oper) (Q : Exit → Act → World → Prop) (R : World → World → Prop) : SY → Act → World → Prop
  | .read oi r, a, w =>
      (if Region.wanted oi (yielded ops a.tmps) = true then ∃ v, (∀ w', R w w' → (execOp a.eval oi).run P w' = .ok (.value v) w') ∧ wpSY P ops Q R r (a.put oi.dst v) w
       else wpSY P ops Q R r (a.put oi.dst undef) w)
  | .pure oi r, a, w =>
      (if Region.wanted oi (yielded ops a.tmps) = true then ∃ v, (∀ w', (execOp a.eval oi).run P w' = .ok (.value v) w') ∧ wpSY P ops Q R r (a.put oi.dst v) w
       else wpSY P ops Q R r (a.put oi.dst undef) w)
  | .eff oi r, a, w =>
      ∀ K : Act → World → Prop, (∀ a' w', R w w' → wpSY P ops Q R r a' w' → K a' w') → (if Region.wanted oi (yielded ops a.tmps) = true then Oper.wp P oi a w K Q else K (a.put oi.dst undef) w)
  | .late oi r, a, w =>
      ∀ K : Act → World → Prop, (∀ a' w', wpSY P ops Q R r a' w' → K a' w') → (if Region.wanted oi (yielded ops a.tmps) = true then Oper.wp P oi a w K Q else K (a.put oi.dst undef) w)
  | .nil, a, w => Q .normal a w

theorem wpAnyY_plan (R : World → World → Prop) (hrefl : ∀ w, R w w) (htrans : ∀ a b c, R a b → R b c → R a c) (hsel : Region.noSelect ops = true)
    (hQ : ∀ c a d v w, Q (.panic c) (a.put d v) w → Q (.panic c) a w) :
    ∀ (t : PY) (s : SY) (listed : Array Bool) (a : Act) (w : World), yOk zs ops listed t = true → yOf ops t = some s → wpSY P ops Q R s a w → wpAnyY P zs ops Q (R w) t.len listed a w
  | .read i r, s, listed, a, w, hp, hs, h => by
    simp only [yOk, Bool.and_eq_true, Bool.not_eq_true'] at hp
    obtain ⟨⟨⟨⟨⟨h1, h2⟩, h3⟩, h4⟩, h5⟩, h6⟩ := hp
    simp only [yOf] at hs
    split at hs
    · rename_i o s' hi hs'
      simp only [Option.some.injEq] at hs
      subst hs
      simp only [wpSY] at h
      by_cases hw : Region.wanted o (yielded ops a.tmps) = true
      · rw [if_pos hw] at h
        obtain ⟨v, hv, h⟩ := h
        exact wpAnyY_take hi h1 hsel h4 h5 h2 (fun c a w h => hQ c a _ _ w h) (.inl ⟨hw, fun w' hw' => hw'.elim (hv w') (fun hf => by rw [h3] at hf; cases hf)⟩) (hrefl w) (wpAnyY_plan R hrefl htrans hsel hQ r _ _ _ w h6 hs' h)
      · rw [if_neg hw] at h
        exact wpAnyY_take hi h1 hsel h4 h5 h2 (fun c a w h => hQ c a _ _ w h) (.inr ⟨by simpa using hw, rfl⟩) (hrefl w) (wpAnyY_plan R hrefl htrans hsel hQ r _ _ _ w h6 hs' h)
    · cases hs
  | .pure i r, s, listed, a, w, hp, hs, h => by
    simp only [yOk, Bool.and_eq_true, Bool.not_eq_true'] at hp
    obtain ⟨⟨⟨⟨h1, h2⟩, h4⟩, h5⟩, h6⟩ := hp
    simp only [yOf] at hs
    split at hs
    · rename_i o s' hi hs'
      simp only [Option.some.injEq] at hs
      subst hs
      simp only [wpSY] at h
      by_cases hw : Region.wanted o (yielded ops a.tmps) = true
      · rw [if_pos hw] at h
        obtain ⟨v, hv, h⟩ := h
        exact wpAnyY_take hi h1 hsel h4 h5 h2 (fun c a w h => hQ c a _ _ w h) (.inl ⟨hw, fun w' _ => hv w'⟩) (hrefl w) (wpAnyY_plan R hrefl htrans hsel hQ r _ _ _ w h6 hs' h)
      · rw [if_neg hw] at h
        exact wpAnyY_take hi h1 hsel h4 h5 h2 (fun c a w h => hQ c a _ _ w h) (.inr ⟨by simpa using hw, rfl⟩) (hrefl w) (wpAnyY_plan R hrefl htrans hsel hQ r _ _ _ w h6 hs' h)
    · cases hs
  | .eff i r, s, listed, a, w, hp, hs, h => by
    simp only [yOk, Bool.and_eq_true, beq_iff_eq] at hp
    obtain ⟨h1, h2⟩ := hp
    simp only [yOf] at hs
    split at hs
    · rename_i o s' hi hs'
      simp only [Option.some.injEq] at hs
      subst hs
      refine ⟨fun h0 => (by rw [h1] at h0; cases h0), fun j hj => ?_⟩
      rw [h1] at hj
      obtain rfl : j = i := by simpa using hj
      refine wpOp_step hi fun K hK => h K fun a' w' hR hwp => hK a' w' ⟨.inr hR, ?_⟩
      exact wpAnyY_mono (fun x hx => htrans _ _ _ hR hx) _ _ _ _ (wpAnyY_plan R hrefl htrans hsel hQ r _ _ _ w' h2 hs' hwp)
    · cases hs
  | .plate i r, s, listed, a, w, hp, hs, h => by
    simp only [yOk, Bool.and_eq_true, Bool.not_eq_true'] at hp
    obtain ⟨⟨⟨⟨⟨h1, h2⟩, h3⟩, h4⟩, h5⟩, h6⟩ := hp
    simp only [yOf] at hs
    split at hs
    · rename_i o s' hi hs'
      simp only [Option.some.injEq] at hs
      subst hs
      simp only [wpSY] at h
      by_cases hw : Region.wanted o (yielded ops a.tmps) = true
      · rw [if_pos hw] at h
        obtain ⟨v, hv, h⟩ := h
        exact wpAnyY_first hi h1 (Region.noSelect_spec hsel) (fun c a w h => hQ c a _ _ w h) _ listed a w (Region.free_spec hi h4) (by simpa using h5) (.inl ⟨hw, fun w' _ => hv w'⟩) (.inr h3) (fun _ => h3) (.inl h2) (wpAnyY_plan R hrefl htrans hsel hQ r _ _ _ w h6 hs' h)
      · rw [if_neg hw] at h
        exact wpAnyY_first hi h1 (Region.noSelect_spec hsel) (fun c a w h => hQ c a _ _ w h) _ listed a w (Region.free_spec hi h4) (by simpa using h5) (.inr ⟨by simpa using hw, rfl⟩) (.inr h3) (fun _ => h3) (.inl h2) (wpAnyY_plan R hrefl htrans hsel hQ r _ _ _ w h6 hs' h)
    · cases hs
  | .late i r, s, listed, a, w, hp, hs, h => by
    simp only [yOk, Bool.and_eq_true, beq_iff_eq, decide_eq_true_eq] at hp
    obtain ⟨⟨⟨hz, h0⟩, h1⟩, h2⟩ := hp
    simp only [yOf] at hs
    split at hs
    · rename_i o s' hi hs'
      simp only [Option.some.injEq] at hs
      subst hs
      refine ⟨fun h0 => (by rw [h1] at h0; cases h0), fun j hj => ?_⟩
      rw [h1] at hj
      obtain rfl : j = i := by simpa using hj
      refine wpOp_step hi fun K hK => h K fun a' w' hwp => hK a' w' ⟨.inl (zUp_has hz h0), ?_⟩
      exact wpAnyY_up _ _ _ _ (zUp_has hz h0) (wpAnyY_plan R hrefl htrans hsel hQ r _ _ _ w' h2 hs' hwp)
    · cases hs
  | .nil, s, listed, a, w, hp, hs, h => by
    simp only [yOf, Option.some.injEq] at hs
    subst hs
    exact ⟨by simpa [yOk] using hp, h⟩

/-- A region that draws its order, by a plan whose last operations may turn what the others read. -/
theorem wp_region_y {id : Nat} {a : Act} {w : World} (R : World → World → Prop) (zs : List Nat) (t : PY) (hm : P.follows .mixedOrders = true) (hrefl : ∀ w, R w w) (htrans : ∀ a b c, R a b → R b c → R a c)
    (hQ : ∀ c a d v w, Q (.panic c) (a.put d v) w → Q (.panic c) a w)
    (hok : (Region.noSelect ops && yOk zs ops (Array.replicate ops.size false) t && t.len == ops.size) = true)
    (h : ∀ s, yOf ops t = some s → wpSY P ops Q R s a w.drew) (hl : (yOf ops t).isSome = true) : (Code.region id ops true).wp P Q a w := by
  obtain ⟨s, hs⟩ := Option.isSome_iff_exists.1 hl
  simp only [Bool.and_eq_true, beq_iff_eq] at hok
  refine wp_region_any hm ?_
  have h' := wpAnyY_plan (zs := zs) R hrefl htrans hok.1.1 (Q := Q) hQ t s (Array.replicate ops.size false) a w.drew hok.1.2 hs (h s hs)
  rw [hok.2] at h'
  exact wpAny_of_y _ _ _ _ h'

section
variable {R : World → World → Prop} {rest : SY} {a : Act} {w : World} {oi : Oper}
theorem y_reads (v : Value) (hw : Region.wanted oi (yielded ops a.tmps) = true)
    (hv : ∀ w', R w w' → (execOp a.eval oi).run P w' = .ok (.value v) w') (h : wpSY P ops Q R rest (a.put oi.dst v) w) : wpSY P ops Q R (.read oi rest) a w := by
  simp only [wpSY]
  rw [if_pos hw]
  exact ⟨v, hv, h⟩
theorem y_pure (v : Value) (hw : Region.wanted oi (yielded ops a.tmps) = true)
    (hv : ∀ w', (execOp a.eval oi).run P w' = .ok (.value v) w') (h : wpSY P ops Q R rest (a.put oi.dst v) w) : wpSY P ops Q R (.pure oi rest) a w := by
  simp only [wpSY]
  rw [if_pos hw]
  exact ⟨v, hv, h⟩
theorem y_does (hw : Region.wanted oi (yielded ops a.tmps) = true)
    (h : ∀ K : Act → World → Prop, (∀ a' w', R w w' → wpSY P ops Q R rest a' w' → K a' w') → Oper.wp P oi a w K Q) : wpSY P ops Q R (.eff oi rest) a w := by
  simp only [wpSY]
  intro K hK
  rw [if_pos hw]
  exact h K hK
theorem y_late (hw : Region.wanted oi (yielded ops a.tmps) = true)
    (h : ∀ K : Act → World → Prop, (∀ a' w', wpSY P ops Q R rest a' w' → K a' w') → Oper.wp P oi a w K Q) : wpSY P ops Q R (.late oi rest) a w := by
  simp only [wpSY]
  intro K hK
  rw [if_pos hw]
  exact h K hK
theorem y_end (h : Q .normal a w) : wpSY P ops Q R .nil a w := h
end
end
end Go.Proofs.YthcbjeeajoliiaaGreatDoor
