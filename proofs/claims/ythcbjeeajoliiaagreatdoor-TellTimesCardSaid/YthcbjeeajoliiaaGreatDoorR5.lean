/- Regions that draw their order, walked by a plan that may part in two or three. -/
import Derived.Test.YthcbjeeajoliiaaGreatDoorR2
set_option linter.unusedVariables false
set_option linter.unusedSimpArgs false
namespace Go.Proofs.YthcbjeeajoliiaaGreatDoor
open Go.RowKit

/-- A plan that may part. -/
inductive PU where
  | nil
  | one (i : Nat) (eff : Bool) (rest : PU)
  | two (i : Nat) (ri : PU) (j : Nat) (rj : PU)
  | three (i : Nat) (ri : PU) (j : Nat) (rj : PU) (k : Nat) (rk : PU)
def PU.len : PU → Nat
  | .nil => 0
  | .one _ _ r => r.len + 1
  | .two _ ri _ _ => ri.len + 1
  | .three _ ri _ _ _ _ => ri.len + 1
/-- Its operations written out. -/
inductive SU where
  | nil
  | one (o : Oper) (eff : Bool) (rest : SU)
  | two (o : Oper) (ri : SU) (o' : Oper) (rj : SU)
  | three (o : Oper) (ri : SU) (o' : Oper) (rj : SU) (o'' : Oper) (rk : SU)

section
variable {P : Program} {ops : Array Oper} {Q : Exit → Act → World → Prop}

def uOk (ops : Array Oper) : Array Bool → PU → Bool
  | listed, .nil => (Region.ready .any ops listed).isEmpty
  | listed, .one i false r => Region.free .any ops listed i && (Region.ready .any ops listed).contains i && uOk ops (listed.setIfInBounds i true) r
  | listed, .one i true r => (Region.ready .any ops listed == [i]) && uOk ops (listed.setIfInBounds i true) r
  | listed, .two i ri j rj => (Region.ready .any ops listed == [i, j]) && uOk ops (listed.setIfInBounds i true) ri && uOk ops (listed.setIfInBounds j true) rj && (ri.len == rj.len)
  | listed, .three i ri j rj k rk => (Region.ready .any ops listed == [i, j, k]) && uOk ops (listed.setIfInBounds i true) ri && uOk ops (listed.setIfInBounds j true) rj && uOk ops (listed.setIfInBounds k true) rk && (ri.len == rj.len) && (ri.len == rk.len)

def uOf (ops : Array Oper) : PU → Option SU
  | .nil => some .nil
  | .one i b r => match ops[i]?, uOf ops r with
    | some o, some s => some (.one o b s)
    | _, _ => none
  | .two i ri j rj => match ops[i]?, uOf ops ri, ops[j]?, uOf ops rj with
    | some o, some s, some o', some s' => some (.two o s o' s')
    | _, _, _, _ => none
  | .three i ri j rj k rk => match ops[i]?, uOf ops ri, ops[j]?, uOf ops rj, ops[k]?, uOf ops rk with
    | some o, some s, some o', some s', some o'', some s'' => some (.three o s o' s' o'' s'')
    | _, _, _, _, _, _ => none

def wpSU (P : Program) (ops : Array Oper) (Q : Exit → Act → World → Prop) (R : World → World → Prop) : SU → Act → World → Prop
  | .nil, a, w => Q .normal a w
  | .one oi false r, a, w =>
      (if Region.wanted oi (yielded ops a.tmps) = true then ∃ v, (∀ w', R w w' → (execOp a.eval oi).run P w' = .ok (.value v) w') ∧ wpSU P ops Q R r (a.put oi.dst v) w
       else wpSU P ops Q R r (a.put oi.dst undef) w)
  | .one oi true r, a, w =>
      ∀ K : Act → World → Prop, (∀ a' w', R w w' → wpSU P ops Q R r a' w' → K a' w') → (if Region.wanted oi (yielded ops a.tmps) = true then Oper.wp P oi a w K Q else K (a.put oi.dst undef) w)
  | .two oi ri oj rj, a, w =>
      (∀ K : Act → World → Prop, (∀ a' w', R w w' → wpSU P ops Q R ri a' w' → K a' w') → (if Region.wanted oi (yielded ops a.tmps) = true then Oper.wp P oi a w K Q else K (a.put oi.dst undef) w)) ∧
      (∀ K : Act → World → Prop, (∀ a' w', R w w' → wpSU P ops Q R rj a' w' → K a' w') → (if Region.wanted oj (yielded ops a.tmps) = true then Oper.wp P oj a w K Q else K (a.put oj.dst undef) w))
  | .three oi ri oj rj ok rk, a, w =>
      (∀ K : Act → World → Prop, (∀ a' w', R w w' → wpSU P ops Q R ri a' w' → K a' w') → (if Region.wanted oi (yielded ops a.tmps) = true then Oper.wp P oi a w K Q else K (a.put oi.dst undef) w)) ∧
      (∀ K : Act → World → Prop, (∀ a' w', R w w' → wpSU P ops Q R rj a' w' → K a' w') → (if Region.wanted oj (yielded ops a.tmps) = true then Oper.wp P oj a w K Q else K (a.put oj.dst undef) w)) ∧
      (∀ K : Act → World → Prop, (∀ a' w', R w w' → wpSU P ops Q R rk a' w' → K a' w') → (if Region.wanted ok (yielded ops a.tmps) = true then Oper.wp P ok a w K Q else K (a.put ok.dst undef) w))

theorem wpAnyH_u (R : World → World → Prop) (hrefl : ∀ w, R w w) (htrans : ∀ a b c, R a b → R b c → R a c) (hsel : Region.noSelect ops = true)
    (hQ : ∀ c a d v w, Q (.panic c) (a.put d v) w → Q (.panic c) a w) :
    ∀ (t : PU) (s : SU) (listed : Array Bool) (a : Act) (w : World), uOk ops listed t = true → uOf ops t = some s → wpSU P ops Q R s a w → wpAnyH P .any ops Q (R w) t.len listed a w
  | .nil, s, listed, a, w, hp, hs, h => by
    simp only [uOf, Option.some.injEq] at hs
    subst hs
    exact wpAnyH_done (by simpa [uOk] using hp) h _
  | .one i false r, s, listed, a, w, hp, hs, h => by
    simp only [uOk, Bool.and_eq_true] at hp
    simp only [uOf] at hs
    split at hs
    · rename_i o s' hi hs'
      simp only [Option.some.injEq] at hs
      subst hs
      simp only [wpSU] at h
      by_cases hw : Region.wanted o (yielded ops a.tmps) = true
      · rw [if_pos hw] at h
        obtain ⟨v, hv, h⟩ := h
        exact wpAnyH_take hi hsel hp.1.1 hp.1.2 (fun c a w h => hQ c a _ _ w h) (.inl ⟨hw, hv⟩) (hrefl w) (wpAnyH_u R hrefl htrans hsel hQ r _ _ _ w hp.2 hs' h)
      · rw [if_neg hw] at h
        exact wpAnyH_take hi hsel hp.1.1 hp.1.2 (fun c a w h => hQ c a _ _ w h) (.inr ⟨by simpa using hw, rfl⟩) (hrefl w) (wpAnyH_u R hrefl htrans hsel hQ r _ _ _ w hp.2 hs' h)
    · cases hs
  | .one i true r, s, listed, a, w, hp, hs, h => by
    simp only [uOk, Bool.and_eq_true, beq_iff_eq] at hp
    simp only [uOf] at hs
    split at hs
    · rename_i o s' hi hs'
      simp only [Option.some.injEq] at hs
      subst hs
      refine wpAnyH_all hp.1 (by simp) ?_
      intro j hj
      obtain rfl : j = i := by simpa using hj
      refine wpOp_step hi fun K hK => h K fun a' w' hR hwp => hK a' w' ⟨hR, ?_⟩
      exact wpAnyH_mono (fun x hx => htrans _ _ _ hR hx) _ _ _ _ (wpAnyH_u R hrefl htrans hsel hQ r _ _ _ w' hp.2 hs' hwp)
    · cases hs
  | .two i ri j rj, s, listed, a, w, hp, hs, h => by
    simp only [uOk, Bool.and_eq_true, beq_iff_eq] at hp
    obtain ⟨⟨⟨hr, h1⟩, h2⟩, hlen⟩ := hp
    simp only [uOf] at hs
    split at hs
    · rename_i o s1 o' s2 hi hs1 hj hs2
      simp only [Option.some.injEq] at hs
      subst hs
      refine wpAnyH_all hr (by simp) ?_
      intro q hq
      simp only [List.mem_cons, List.not_mem_nil, or_false] at hq
      rcases hq with rfl | rfl
      · refine wpOp_step hi fun K hK => h.1 K fun a' w' hR hwp => hK a' w' ⟨hR, ?_⟩
        exact wpAnyH_mono (fun x hx => htrans _ _ _ hR hx) _ _ _ _ (wpAnyH_u R hrefl htrans hsel hQ ri _ _ _ w' h1 hs1 hwp)
      · refine wpOp_step hj fun K hK => h.2 K fun a' w' hR hwp => hK a' w' ⟨hR, ?_⟩
        rw [hlen]
        exact wpAnyH_mono (fun x hx => htrans _ _ _ hR hx) _ _ _ _ (wpAnyH_u R hrefl htrans hsel hQ rj _ _ _ w' h2 hs2 hwp)
    · cases hs
  | .three i ri j rj k rk, s, listed, a, w, hp, hs, h => by
    simp only [uOk, Bool.and_eq_true, beq_iff_eq] at hp
    obtain ⟨⟨⟨⟨⟨hr, h1⟩, h2⟩, h3⟩, hlen⟩, hlen2⟩ := hp
    simp only [uOf] at hs
    split at hs
    · rename_i o s1 o' s2 o'' s3 hi hs1 hj hs2 hk hs3
      simp only [Option.some.injEq] at hs
      subst hs
      refine wpAnyH_all hr (by simp) ?_
      intro q hq
      simp only [List.mem_cons, List.not_mem_nil, or_false] at hq
      rcases hq with rfl | rfl | rfl
      · refine wpOp_step hi fun K hK => h.1 K fun a' w' hR hwp => hK a' w' ⟨hR, ?_⟩
        exact wpAnyH_mono (fun x hx => htrans _ _ _ hR hx) _ _ _ _ (wpAnyH_u R hrefl htrans hsel hQ ri _ _ _ w' h1 hs1 hwp)
      · refine wpOp_step hj fun K hK => h.2.1 K fun a' w' hR hwp => hK a' w' ⟨hR, ?_⟩
        rw [hlen]
        exact wpAnyH_mono (fun x hx => htrans _ _ _ hR hx) _ _ _ _ (wpAnyH_u R hrefl htrans hsel hQ rj _ _ _ w' h2 hs2 hwp)
      · refine wpOp_step hk fun K hK => h.2.2 K fun a' w' hR hwp => hK a' w' ⟨hR, ?_⟩
        rw [hlen2]
        exact wpAnyH_mono (fun x hx => htrans _ _ _ hR hx) _ _ _ _ (wpAnyH_u R hrefl htrans hsel hQ rk _ _ _ w' h3 hs3 hwp)
    · cases hs

/-- A region that draws its order, by a plan that parts. -/
theorem wp_region_u {id : Nat} {a : Act} {w : World} (R : World → World → Prop) (t : PU) (hm : P.follows .mixedOrders = true) (hrefl : ∀ w, R w w) (htrans : ∀ a b c, R a b → R b c → R a c)
    (hQ : ∀ c a d v w, Q (.panic c) (a.put d v) w → Q (.panic c) a w)
    (hok : (Region.noSelect ops && uOk ops (Array.replicate ops.size false) t && t.len == ops.size) = true)
    (h : ∀ s, uOf ops t = some s → wpSU P ops Q R s a w.drew) (hl : (uOf ops t).isSome = true) : (Code.region id ops true).wp P Q a w := by
  obtain ⟨s, hs⟩ := Option.isSome_iff_exists.1 hl
  simp only [Bool.and_eq_true, beq_iff_eq] at hok
  refine wp_region_held (S := R w.drew) hm ?_
  have h' := wpAnyH_u R hrefl htrans hok.1.1 (Q := Q) hQ t s (Array.replicate ops.size false) a w.drew hok.1.2 hs (h s hs)
  rw [hok.2] at h'
  exact h'

section
variable {R : World → World → Prop} {rest ri rj : SU} {a : Act} {w : World} {oi oj : Oper}
theorem u_reads (v : Value) (hw : Region.wanted oi (yielded ops a.tmps) = true)
    (hv : ∀ w', R w w' → (execOp a.eval oi).run P w' = .ok (.value v) w') (h : wpSU P ops Q R rest (a.put oi.dst v) w) : wpSU P ops Q R (.one oi false rest) a w := by
  simp only [wpSU]
  rw [if_pos hw]
  exact ⟨v, hv, h⟩
theorem u_skips (hw : Region.wanted oi (yielded ops a.tmps) = false)
    (h : wpSU P ops Q R rest (a.put oi.dst undef) w) : wpSU P ops Q R (.one oi false rest) a w := by
  simp only [wpSU]
  rw [if_neg (by simp [hw])]
  exact h
theorem u_does (hw : Region.wanted oi (yielded ops a.tmps) = true)
    (h : ∀ K : Act → World → Prop, (∀ a' w', R w w' → wpSU P ops Q R rest a' w' → K a' w') → Oper.wp P oi a w K Q) : wpSU P ops Q R (.one oi true rest) a w := by
  simp only [wpSU]
  intro K hK
  rw [if_pos hw]
  exact h K hK
theorem u_two (hwi : Region.wanted oi (yielded ops a.tmps) = true) (hwj : Region.wanted oj (yielded ops a.tmps) = true)
    (hi : ∀ K : Act → World → Prop, (∀ a' w', R w w' → wpSU P ops Q R ri a' w' → K a' w') → Oper.wp P oi a w K Q)
    (hj : ∀ K : Act → World → Prop, (∀ a' w', R w w' → wpSU P ops Q R rj a' w' → K a' w') → Oper.wp P oj a w K Q) : wpSU P ops Q R (.two oi ri oj rj) a w := by
  simp only [wpSU]
  refine ⟨fun K hK => ?_, fun K hK => ?_⟩
  · rw [if_pos hwi]
    exact hi K hK
  · rw [if_pos hwj]
    exact hj K hK
theorem u_three {ok : Oper} {rk : SU} (hwi : Region.wanted oi (yielded ops a.tmps) = true) (hwj : Region.wanted oj (yielded ops a.tmps) = true) (hwk : Region.wanted ok (yielded ops a.tmps) = true)
    (hi : ∀ K : Act → World → Prop, (∀ a' w', R w w' → wpSU P ops Q R ri a' w' → K a' w') → Oper.wp P oi a w K Q)
    (hj : ∀ K : Act → World → Prop, (∀ a' w', R w w' → wpSU P ops Q R rj a' w' → K a' w') → Oper.wp P oj a w K Q)
    (hk : ∀ K : Act → World → Prop, (∀ a' w', R w w' → wpSU P ops Q R rk a' w' → K a' w') → Oper.wp P ok a w K Q) : wpSU P ops Q R (.three oi ri oj rj ok rk) a w := by
  simp only [wpSU]
  refine ⟨fun K hK => ?_, fun K hK => ?_, fun K hK => ?_⟩
  · rw [if_pos hwi]
    exact hi K hK
  · rw [if_pos hwj]
    exact hj K hK
  · rw [if_pos hwk]
    exact hk K hK
theorem u_end (h : Q .normal a w) : wpSU P ops Q R .nil a w := h
end
end
end Go.Proofs.YthcbjeeajoliiaaGreatDoor
