/- Regions that draw their order, walked by a plan; the last operation (which all others come ahead of) may turn what the others read. -/
import Derived.Test.YthcbjeeajoliiaaGreatDoorR2
set_option linter.unusedVariables false
namespace Go.Proofs.YthcbjeeajoliiaaGreatDoor
open Go.RowKit

/-- Does operation z wait for operation i by an edge of its own? -/
def waitsOn (ops : Array Oper) (z i : Nat) : Bool := ((ops[z]?).map fun o => o.after.any fun e => Region.binds .any e && e.on == i).getD false

section
variable {P : Program} {ops : Array Oper} {Q : Exit → Act → World → Prop} {z : Nat} {S : World → Prop}

def wpAnyZ (P : Program) (z : Nat) (ops : Array Oper) (Q : Exit → Act → World → Prop) (S : World → Prop) : Nat → Array Bool → Act → World → Prop
  | 0, listed, a, w => Region.ready .any ops listed = [] ∧ Q .normal a w
  | fuel + 1, listed, a, w =>
    (Region.ready .any ops listed = [] → Q .normal a w) ∧
    ∀ i ∈ Region.ready .any ops listed, wpOp P ops Q i (fun a' w' => ((listed.setIfInBounds i true).getD z false = true ∨ S w') ∧ wpAnyZ P z ops Q S fuel (listed.setIfInBounds i true) a' w') a w

theorem wpAny_of_z : ∀ (fuel : Nat) (listed : Array Bool) (a : Act) (w : World), wpAnyZ P z ops Q S fuel listed a w → wpAny P .any ops Q fuel listed a w
  | 0, _, _, _, h => h
  | fuel + 1, _, _, _, h => ⟨h.1, fun i hi => wpOp_mono (fun a' w' h' => wpAny_of_z fuel _ a' w' h'.2) (h.2 i hi)⟩

theorem wpAnyZ_mono {S' : World → Prop} (hS : ∀ w, S' w → S w) : ∀ (fuel : Nat) (listed : Array Bool) (a : Act) (w : World),
    wpAnyZ P z ops Q S' fuel listed a w → wpAnyZ P z ops Q S fuel listed a w
  | 0, _, _, _, h => h
  | fuel + 1, _, _, _, h => ⟨h.1, fun i hi => wpOp_mono (fun a' w' h' => ⟨h'.1.imp id (hS _), wpAnyZ_mono hS fuel _ a' w' h'.2⟩) (h.2 i hi)⟩

theorem wpAnyZ_first {i : Nat} {oi : Oper} {v : Value} (hi : ops[i]? = some oi) (hiz : i ≠ z) (hsel : ∀ (j : Nat) (o : Oper) cs b, ops[j]? = some o → o.op ≠ .select cs b)
    (hQ : ∀ c a w, Q (.panic c) (a.put oi.dst v) w → Q (.panic c) a w) :
    ∀ (fuel : Nat) (listed : Array Bool) (a : Act) (w : World),
      (∀ j oj, ops[j]? = some oj → j ≠ i → listed.getD j true = false → (∀ e ∈ oj.after, Region.binds .any e = true → e.on ≠ i) → oi.apart ops oj = true) →
      i ∈ Region.ready .any ops listed → YieldsIf P ops (fun w => S w ∨ waitsOn ops z i = false) oi v a → (S w ∨ waitsOn ops z i = false) → (listed.getD z false = true → waitsOn ops z i = false) →
      (listed.getD z false = true ∨ S w) →
      wpAnyZ P z ops Q S fuel (listed.setIfInBounds i true) (a.put oi.dst v) w → wpAnyZ P z ops Q S (fuel + 1) listed a w := by
  have hsame : ∀ listed : Array Bool, (listed.setIfInBounds i true).getD z false = listed.getD z false := fun l => getD_set_ne false hiz
  intro fuel
  induction fuel with
  | zero =>
    intro listed a w _ hr hy hS hzl hS0 H
    refine ⟨fun h => (by rw [h] at hr; cases hr), fun j hj => ?_⟩
    by_cases hji : j = i
    · subst hji; exact hy.wpOp hi hS ⟨by rw [hsame]; exact hS0, H⟩
    · have := ready_mono hj hji
      rw [H.1] at this
      cases this
  | succ fuel ih =>
    intro listed a w hfree hr hy hS hzl hS0 H
    refine ⟨fun h => (by rw [h] at hr; cases hr), fun j hj => ?_⟩
    by_cases hji : j = i
    · subst hji; exact hy.wpOp hi hS ⟨by rw [hsame]; exact hS0, H⟩
    · have h1 := H.2 j (ready_mono hj hji)
      obtain ⟨hjun, oj, hoj, hall⟩ := mem_ready.1 hj
      have hnot : ∀ e ∈ oj.after, Region.binds .any e = true → e.on ≠ i := fun e he hb heq => by
        have h1 := hall e he hb
        have h0 := (mem_ready.1 hr).1
        rw [heq] at h1
        rcases Nat.lt_or_ge i listed.size with h' | h'
        · simp [h'] at h0 h1; rw [h0] at h1; cases h1
        · simp [Array.getElem?_eq_none h'] at h1
      have hz : j = z → waitsOn ops z i = false := by
        rintro rfl
        unfold waitsOn
        rw [hoj]
        simp only [Option.map_some, Option.getD_some]
        rw [Array.any_eq_false]
        intro q hq
        simp only [Bool.and_eq_true, beq_iff_eq, not_and]
        intro hb
        exact hnot _ (Array.getElem_mem hq) hb
      have h2 := wpOp_putIf hoj (hfree j oj hoj hji hjun hnot) (fun cs b => hsel i oi cs b hi) (fun cs b => hsel j oj cs b hoj) hQ hy h1
      have hfree' : ∀ k ok, ops[k]? = some ok → k ≠ i → (listed.setIfInBounds j true).getD k true = false →
          (∀ e ∈ ok.after, Region.binds .any e = true → e.on ≠ i) → oi.apart ops ok = true := fun k ok hk hki hun hno => by
        refine hfree k ok hk hki ?_ hno
        by_cases hjk : j = k
        · subst hjk; exact hjun
        · rw [getD_set_ne true hjk] at hun; exact hun
      have hzl' : (listed.setIfInBounds j true).getD z false = true → waitsOn ops z i = false := fun h => by
        by_cases hjz : j = z
        · exact hz hjz
        · rw [getD_set_ne false hjz] at h
          exact hzl h
      have hcur : ∀ w', (((listed.setIfInBounds i true).setIfInBounds j true).getD z false = true ∨ S w') → ((listed.setIfInBounds j true).getD z false = true ∨ S w') := fun w' h => by
        rw [Array.setIfInBounds_comm _ _ (Ne.symm hji), hsame] at h
        exact h
      refine wpOp_mono (fun a' w' h3 => ⟨hcur w' h3.2.1, ih (listed.setIfInBounds j true) a' w' hfree' (ready_mono hr (Ne.symm hji)) h3.1 ((hcur w' h3.2.1).elim (fun h => .inr (hzl' h)) .inl) hzl' (hcur w' h3.2.1) ?_⟩) h2
      rw [Array.setIfInBounds_comm _ _ hji]
      exact h3.2.2

theorem wpAnyZ_take {i : Nat} {oi : Oper} {v : Value} {fuel : Nat} {listed : Array Bool} {a : Act} {w : World} (hi : ops[i]? = some oi) (hiz : i ≠ z)
    (hs : Region.noSelect ops = true) (hf : Region.free .any ops listed i = true) (hr : (Region.ready .any ops listed).contains i = true) (hl : listed.getD z false = false)
    (hQ : ∀ c a w, Q (.panic c) (a.put oi.dst v) w → Q (.panic c) a w) (hy : YieldsIf P ops (fun w => S w ∨ waitsOn ops z i = false) oi v a) (hS : S w)
    (h : wpAnyZ P z ops Q S fuel (listed.setIfInBounds i true) (a.put oi.dst v) w) : wpAnyZ P z ops Q S (fuel + 1) listed a w :=
  wpAnyZ_first hi hiz (Region.noSelect_spec hs) hQ fuel listed a w (Region.free_spec hi hf) (by simpa using hr) hy (.inl hS) (fun h => by rw [hl] at h; cases h) (.inr hS) h
end

/-- A plan: what only reads, and the last waits for it · what yields the same in whatever world · what has an effect · the last. -/
inductive PZ where
  | read (i : Nat) (rest : PZ)
  | pure (i : Nat) (rest : PZ)
  | eff (i : Nat) (rest : PZ)
  | last (i : Nat)
inductive SZ where
  | read (o : Oper) (rest : SZ)
  | pure (o : Oper) (rest : SZ)
  | eff (o : Oper) (rest : SZ)
  | last (o : Oper)
def PZ.len : PZ → Nat
  | .read _ r => r.len + 1
  | .pure _ r => r.len + 1
  | .eff _ r => r.len + 1
  | .last _ => 1

section
variable {P : Program} {ops : Array Oper} {Q : Exit → Act → World → Prop} {z : Nat}
def zOk (z : Nat) (ops : Array Oper) : Array Bool → PZ → Bool
  | listed, .read i r => (i != z) && !listed.getD z false && waitsOn ops z i && Region.free .any ops listed i && (Region.ready .any ops listed).contains i && zOk z ops (listed.setIfInBounds i true) r
  | listed, .pure i r => (i != z) && !listed.getD z false && Region.free .any ops listed i && (Region.ready .any ops listed).contains i && zOk z ops (listed.setIfInBounds i true) r
  | listed, .eff i r => (i != z) && (Region.ready .any ops listed == [i]) && zOk z ops (listed.setIfInBounds i true) r
  | listed, .last i => (i == z) && decide (z < listed.size) && (Region.ready .any ops listed == [i]) && (Region.ready .any ops (listed.setIfInBounds i true)).isEmpty
def zOf (ops : Array Oper) : PZ → Option SZ
  | .read i r => match ops[i]?, zOf ops r with
    | some o, some s => some (.read o s)
    | _, _ => none
  | .pure i r => match ops[i]?, zOf ops r with
    | some o, some s => some (.pure o s)
    | _, _ => none
  | .eff i r => match ops[i]?, zOf ops r with
    | some o, some s => some (.eff o s)
    | _, _ => none
  | .last i => match ops[i]? with
    | some o => some (.last o)
    | _ => none
def wpSZ (P : Program) (ops : Array Oper) (Q : Exit → Act → World → Prop) (R : World → World → Prop) : SZ → Act → World → Prop
  | .read oi r, a, w =>
      (if Region.wanted oi (yielded ops a.tmps) = true then ∃ v, (∀ w', R w w' → (execOp a.eval oi).run P w' = .ok (.value v) w') ∧ wpSZ P ops Q R r (a.put oi.dst v) w
       else wpSZ P ops Q R r (a.put oi.dst undef) w)
  | .pure oi r, a, w =>
      (if Region.wanted oi (yielded ops a.tmps) = true then ∃ v, (∀ w', (execOp a.eval oi).run P w' = .ok (.value v) w') ∧ wpSZ P ops Q R r (a.put oi.dst v) w
       else wpSZ P ops Q R r (a.put oi.dst undef) w)
  | .eff oi r, a, w =>
      ∀ K : Act → World → Prop, (∀ a' w', R w w' → wpSZ P ops Q R r a' w' → K a' w') → (if Region.wanted oi (yielded ops a.tmps) = true then Oper.wp P oi a w K Q else K (a.put oi.dst undef) w)
  | .last oi, a, w =>
      ∀ K : Act → World → Prop, (∀ a' w', Q .normal a' w' → K a' w') → (if Region.wanted oi (yielded ops a.tmps) = true then Oper.wp P oi a w K Q else K (a.put oi.dst undef) w)

theorem wpAnyZ_plan (R : World → World → Prop) (hrefl : ∀ w, R w w) (htrans : ∀ a b c, R a b → R b c → R a c) (hsel : Region.noSelect ops = true)
    (hQ : ∀ c a d v w, Q (.panic c) (a.put d v) w → Q (.panic c) a w) :
    ∀ (t : PZ) (s : SZ) (listed : Array Bool) (a : Act) (w : World), zOk z ops listed t = true → zOf ops t = some s → wpSZ P ops Q R s a w → wpAnyZ P z ops Q (R w) t.len listed a w
  | .read i r, s, listed, a, w, hp, hs, h => by
    simp only [zOk, Bool.and_eq_true, bne_iff_ne, ne_eq, Bool.not_eq_true'] at hp
    obtain ⟨⟨⟨⟨⟨h1, h2⟩, h3⟩, h4⟩, h5⟩, h6⟩ := hp
    simp only [zOf] at hs
    split at hs
    · rename_i o s' hi hs'
      simp only [Option.some.injEq] at hs
      subst hs
      simp only [wpSZ] at h
      by_cases hw : Region.wanted o (yielded ops a.tmps) = true
      · rw [if_pos hw] at h
        obtain ⟨v, hv, h⟩ := h
        exact wpAnyZ_take hi h1 hsel h4 h5 h2 (fun c a w h => hQ c a _ _ w h) (.inl ⟨hw, fun w' hw' => hw'.elim (hv w') (fun hf => by rw [h3] at hf; cases hf)⟩) (hrefl w) (wpAnyZ_plan R hrefl htrans hsel hQ r _ _ _ w h6 hs' h)
      · rw [if_neg hw] at h
        exact wpAnyZ_take hi h1 hsel h4 h5 h2 (fun c a w h => hQ c a _ _ w h) (.inr ⟨by simpa using hw, rfl⟩) (hrefl w) (wpAnyZ_plan R hrefl htrans hsel hQ r _ _ _ w h6 hs' h)
    · cases hs
  | .pure i r, s, listed, a, w, hp, hs, h => by
    simp only [zOk, Bool.and_eq_true, bne_iff_ne, ne_eq, Bool.not_eq_true'] at hp
    obtain ⟨⟨⟨⟨h1, h2⟩, h4⟩, h5⟩, h6⟩ := hp
    simp only [zOf] at hs
    split at hs
    · rename_i o s' hi hs'
      simp only [Option.some.injEq] at hs
      subst hs
      simp only [wpSZ] at h
      by_cases hw : Region.wanted o (yielded ops a.tmps) = true
      · rw [if_pos hw] at h
        obtain ⟨v, hv, h⟩ := h
        exact wpAnyZ_take hi h1 hsel h4 h5 h2 (fun c a w h => hQ c a _ _ w h) (.inl ⟨hw, fun w' _ => hv w'⟩) (hrefl w) (wpAnyZ_plan R hrefl htrans hsel hQ r _ _ _ w h6 hs' h)
      · rw [if_neg hw] at h
        exact wpAnyZ_take hi h1 hsel h4 h5 h2 (fun c a w h => hQ c a _ _ w h) (.inr ⟨by simpa using hw, rfl⟩) (hrefl w) (wpAnyZ_plan R hrefl htrans hsel hQ r _ _ _ w h6 hs' h)
    · cases hs
  | .eff i r, s, listed, a, w, hp, hs, h => by
    simp only [zOk, Bool.and_eq_true, beq_iff_eq] at hp
    obtain ⟨⟨_, h1⟩, h2⟩ := hp
    simp only [zOf] at hs
    split at hs
    · rename_i o s' hi hs'
      simp only [Option.some.injEq] at hs
      subst hs
      refine ⟨fun h0 => (by rw [h1] at h0; cases h0), fun j hj => ?_⟩
      rw [h1] at hj
      obtain rfl : j = i := by simpa using hj
      refine wpOp_step hi fun K hK => h K fun a' w' hR hwp => hK a' w' ⟨.inr hR, ?_⟩
      exact wpAnyZ_mono (fun x hx => htrans _ _ _ hR hx) _ _ _ _ (wpAnyZ_plan R hrefl htrans hsel hQ r _ _ _ w' h2 hs' hwp)
    · cases hs
  | .last i, s, listed, a, w, hp, hs, h => by
    simp only [zOk, Bool.and_eq_true, beq_iff_eq, decide_eq_true_eq] at hp
    obtain ⟨⟨⟨rfl, h0⟩, h1⟩, h2⟩ := hp
    simp only [zOf] at hs
    split at hs
    · rename_i o hi
      simp only [Option.some.injEq] at hs
      subst hs
      refine ⟨fun h0 => (by rw [h1] at h0; cases h0), fun j hj => ?_⟩
      rw [h1] at hj
      obtain rfl : j = i := by simpa using hj
      refine wpOp_step hi fun K hK => h K fun a' w' hq => hK a' w' ⟨.inl (by simp [h0]), ?_⟩
      exact ⟨by simpa using h2, hq⟩
    · cases hs

/-- A region that draws its order, by a plan whose last operation may turn what the others read. -/
theorem wp_region_z {id : Nat} {a : Act} {w : World} (R : World → World → Prop) (t : PZ) (hm : P.follows .mixedOrders = true) (hrefl : ∀ w, R w w) (htrans : ∀ a b c, R a b → R b c → R a c)
    (hQ : ∀ c a d v w, Q (.panic c) (a.put d v) w → Q (.panic c) a w)
    (hok : (Region.noSelect ops && zOk (ops.size - 1) ops (Array.replicate ops.size false) t && t.len == ops.size) = true)
    (h : ∀ s, zOf ops t = some s → wpSZ P ops Q R s a w.drew) (hl : (zOf ops t).isSome = true) : (Code.region id ops true).wp P Q a w := by
  obtain ⟨s, hs⟩ := Option.isSome_iff_exists.1 hl
  simp only [Bool.and_eq_true, beq_iff_eq] at hok
  refine wp_region_any hm ?_
  have h' := wpAnyZ_plan (z := ops.size - 1) R hrefl htrans hok.1.1 (Q := Q) hQ t s (Array.replicate ops.size false) a w.drew hok.1.2 hs (h s hs)
  rw [hok.2] at h'
  exact wpAny_of_z _ _ _ _ h'

section
variable {R : World → World → Prop} {rest : SZ} {a : Act} {w : World} {oi : Oper}
theorem z_reads (v : Value) (hw : Region.wanted oi (yielded ops a.tmps) = true)
    (hv : ∀ w', R w w' → (execOp a.eval oi).run P w' = .ok (.value v) w') (h : wpSZ P ops Q R rest (a.put oi.dst v) w) : wpSZ P ops Q R (.read oi rest) a w := by
  simp only [wpSZ]
  rw [if_pos hw]
  exact ⟨v, hv, h⟩
theorem z_pure (v : Value) (hw : Region.wanted oi (yielded ops a.tmps) = true)
    (hv : ∀ w', (execOp a.eval oi).run P w' = .ok (.value v) w') (h : wpSZ P ops Q R rest (a.put oi.dst v) w) : wpSZ P ops Q R (.pure oi rest) a w := by
  simp only [wpSZ]
  rw [if_pos hw]
  exact ⟨v, hv, h⟩
theorem z_does (hw : Region.wanted oi (yielded ops a.tmps) = true)
    (h : ∀ K : Act → World → Prop, (∀ a' w', R w w' → wpSZ P ops Q R rest a' w' → K a' w') → Oper.wp P oi a w K Q) : wpSZ P ops Q R (.eff oi rest) a w := by
  simp only [wpSZ]
  intro K hK
  rw [if_pos hw]
  exact h K hK
theorem z_last (hw : Region.wanted oi (yielded ops a.tmps) = true)
    (h : ∀ K : Act → World → Prop, (∀ a' w', Q .normal a' w' → K a' w') → Oper.wp P oi a w K Q) : wpSZ P ops Q R (.last oi) a w := by
  simp only [wpSZ]
  intro K hK
  rw [if_pos hw]
  exact h K hK
end
end
end Go.Proofs.YthcbjeeajoliiaaGreatDoor
