/- Regions that draw their order, walked once, by a plan: what only reads is taken as soon as it may come up, and must keep its value in every later world; what has an effect comes up alone. -/
import Derived.Test.YthcbjeeajoliiaaGreatDoorB
import Derived.OrdersHeld
import Derived.Deep.RegionHeld
import Derived.RegionTactic
set_option linter.unusedVariables false
namespace Go.Proofs.YthcbjeeajoliiaaGreatDoor
open Go.RowKit

section
variable {P : Program} {ops : Array Oper} {Q : Exit → Act → World → Prop} {md : Region.Mode}

theorem wpAnyH_mono {S S' : World → Prop} (hS : ∀ w, S' w → S w) : ∀ (fuel : Nat) (listed : Array Bool) (a : Act) (w : World),
    wpAnyH P md ops Q S' fuel listed a w → wpAnyH P md ops Q S fuel listed a w
  | 0, _, _, _, h => h
  | fuel + 1, _, _, _, h => ⟨h.1, fun i hi => wpOp_mono (fun a' w' h' => ⟨hS _ h'.1, wpAnyH_mono hS fuel _ a' w' h'.2⟩) (h.2 i hi)⟩

/-- The walk of a plan: (i, false): number i only reads; (i, true): number i has an effect. -/
def wpPlan (P : Program) (ops : Array Oper) (Q : Exit → Act → World → Prop) (R : World → World → Prop) : List (Nat × Bool) → Act → World → Prop
  | [], a, w => Q .normal a w
  | (i, false) :: rest, a, w => ∃ oi, ops[i]? = some oi ∧
      (if Region.wanted oi (yielded ops a.tmps) = true then ∃ v, (∀ w', R w w' → (execOp a.eval oi).run P w' = .ok (.value v) w') ∧ wpPlan P ops Q R rest (a.put oi.dst v) w
       else wpPlan P ops Q R rest (a.put oi.dst undef) w)
  | (i, true) :: rest, a, w => ∃ oi, ops[i]? = some oi ∧
      ∀ K : Act → World → Prop, (∀ a' w', R w w' → wpPlan P ops Q R rest a' w' → K a' w') → (if Region.wanted oi (yielded ops a.tmps) = true then Oper.wp P oi a w K Q else K (a.put oi.dst undef) w)

def planOk (ops : Array Oper) : Array Bool → List (Nat × Bool) → Bool
  | listed, [] => (Region.ready .any ops listed).isEmpty
  | listed, (i, false) :: rest => Region.free .any ops listed i && (Region.ready .any ops listed).contains i && planOk ops (listed.setIfInBounds i true) rest
  | listed, (i, true) :: rest => (Region.ready .any ops listed == [i]) && planOk ops (listed.setIfInBounds i true) rest

theorem wpAnyH_plan (R : World → World → Prop) (hrefl : ∀ w, R w w) (htrans : ∀ a b c, R a b → R b c → R a c) (hsel : Region.noSelect ops = true)
    (hQ : ∀ c a d v w, Q (.panic c) (a.put d v) w → Q (.panic c) a w) :
    ∀ (plan : List (Nat × Bool)) (listed : Array Bool) (a : Act) (w : World), planOk ops listed plan = true → wpPlan P ops Q R plan a w → wpAnyH P .any ops Q (R w) plan.length listed a w
  | [], listed, a, w, hp, h => wpAnyH_done (by simpa [planOk] using hp) h _
  | (i, false) :: rest, listed, a, w, hp, h => by
    simp only [planOk, Bool.and_eq_true] at hp
    obtain ⟨oi, hi, h⟩ := h
    by_cases hw : Region.wanted oi (yielded ops a.tmps) = true
    · rw [if_pos hw] at h
      obtain ⟨v, hv, h⟩ := h
      exact wpAnyH_take hi hsel hp.1.1 hp.1.2 (fun c a w h => hQ c a _ _ w h) (.inl ⟨hw, hv⟩) (hrefl w) (wpAnyH_plan R hrefl htrans hsel hQ rest _ _ w hp.2 h)
    · rw [if_neg hw] at h
      exact wpAnyH_take hi hsel hp.1.1 hp.1.2 (fun c a w h => hQ c a _ _ w h) (.inr ⟨by simpa using hw, rfl⟩) (hrefl w) (wpAnyH_plan R hrefl htrans hsel hQ rest _ _ w hp.2 h)
  | (i, true) :: rest, listed, a, w, hp, h => by
    simp only [planOk, Bool.and_eq_true, beq_iff_eq] at hp
    obtain ⟨oi, hi, h⟩ := h
    refine wpAnyH_all hp.1 (by simp) ?_
    intro j hj
    obtain rfl : j = i := by simpa using hj
    refine wpOp_step hi fun K hK => h K fun a' w' hR hwp => hK a' w' ⟨hR, ?_⟩
    exact wpAnyH_mono (fun x hx => htrans _ _ _ hR hx) _ _ _ _ (wpAnyH_plan R hrefl htrans hsel hQ rest _ _ w' hp.2 hwp)

/-- A region that draws its order, by a plan. -/
theorem wp_region_plan {id : Nat} {a : Act} {w : World} (R : World → World → Prop) (plan : List (Nat × Bool)) (hm : P.follows .mixedOrders = true) (hrefl : ∀ w, R w w) (htrans : ∀ a b c, R a b → R b c → R a c)
    (hQ : ∀ c a d v w, Q (.panic c) (a.put d v) w → Q (.panic c) a w)
    (hok : (Region.noSelect ops && planOk ops (Array.replicate ops.size false) plan && plan.length == ops.size) = true)
    (h : wpPlan P ops Q R plan a w.drew) : (Code.region id ops true).wp P Q a w := by
  simp only [Bool.and_eq_true, beq_iff_eq] at hok
  refine wp_region_held (S := R w.drew) hm ?_
  have h' := wpAnyH_plan R hrefl htrans hok.1.1 (Q := Q) hQ plan (Array.replicate ops.size false) a w.drew hok.1.2 h
  rw [hok.2] at h'
  exact h'

/-- The plan with its operations written out. -/
def wpSteps (P : Program) (ops : Array Oper) (Q : Exit → Act → World → Prop) (R : World → World → Prop) : List (Oper × Bool) → Act → World → Prop
  | [], a, w => Q .normal a w
  | (oi, false) :: rest, a, w =>
      (if Region.wanted oi (yielded ops a.tmps) = true then ∃ v, (∀ w', R w w' → (execOp a.eval oi).run P w' = .ok (.value v) w') ∧ wpSteps P ops Q R rest (a.put oi.dst v) w
       else wpSteps P ops Q R rest (a.put oi.dst undef) w)
  | (oi, true) :: rest, a, w =>
      ∀ K : Act → World → Prop, (∀ a' w', R w w' → wpSteps P ops Q R rest a' w' → K a' w') → (if Region.wanted oi (yielded ops a.tmps) = true then Oper.wp P oi a w K Q else K (a.put oi.dst undef) w)
def stepsOf (ops : Array Oper) : List (Nat × Bool) → Option (List (Oper × Bool))
  | [] => some []
  | (i, b) :: rest => match ops[i]?, stepsOf ops rest with
    | some o, some l => some ((o, b) :: l)
    | _, _ => none
theorem wpPlan_steps {R : World → World → Prop} : ∀ (plan : List (Nat × Bool)) (l : List (Oper × Bool)) (a : Act) (w : World), stepsOf ops plan = some l → wpSteps P ops Q R l a w → wpPlan P ops Q R plan a w
  | [], l, a, w, hl, h => by
    simp only [stepsOf, Option.some.injEq] at hl
    subst hl
    exact h
  | (i, b) :: rest, l, a, w, hl, h => by
    simp only [stepsOf] at hl
    split at hl
    · rename_i o l' ho hr
      simp only [Option.some.injEq] at hl
      subst hl
      cases b with
      | false =>
        refine ⟨o, ho, ?_⟩
        simp only [wpSteps] at h
        by_cases hw : Region.wanted o (yielded ops a.tmps) = true
        · rw [if_pos hw] at h ⊢
          obtain ⟨v, hv, h⟩ := h
          exact ⟨v, hv, wpPlan_steps rest l' _ w hr h⟩
        · rw [if_neg hw] at h ⊢
          exact wpPlan_steps rest l' _ w hr h
      | true => exact ⟨o, ho, fun K hK => h K fun a' w' hR hs => hK a' w' hR (wpPlan_steps rest l' a' w' hr hs)⟩
    · cases hl

/-- A region that draws its order, by a plan, its operations written out. -/
theorem wp_region_steps {id : Nat} {a : Act} {w : World} (R : World → World → Prop) (plan : List (Nat × Bool)) (hm : P.follows .mixedOrders = true) (hrefl : ∀ w, R w w) (htrans : ∀ a b c, R a b → R b c → R a c)
    (hQ : ∀ c a d v w, Q (.panic c) (a.put d v) w → Q (.panic c) a w)
    (hok : (Region.noSelect ops && planOk ops (Array.replicate ops.size false) plan && plan.length == ops.size) = true)
    (h : ∀ l, stepsOf ops plan = some l → wpSteps P ops Q R l a w.drew) (hl : (stepsOf ops plan).isSome = true) : (Code.region id ops true).wp P Q a w := by
  obtain ⟨l, hl⟩ := Option.isSome_iff_exists.1 hl
  exact wp_region_plan R plan hm hrefl htrans hQ hok (wpPlan_steps plan l a w.drew hl (h l hl))

section
variable {R : World → World → Prop} {rest : List (Oper × Bool)} {a : Act} {w : World} {oi : Oper}
theorem plan_reads (v : Value) (hw : Region.wanted oi (yielded ops a.tmps) = true)
    (hv : ∀ w', R w w' → (execOp a.eval oi).run P w' = .ok (.value v) w') (h : wpSteps P ops Q R rest (a.put oi.dst v) w) : wpSteps P ops Q R ((oi, false) :: rest) a w := by
  simp only [wpSteps]
  rw [if_pos hw]
  exact ⟨v, hv, h⟩
theorem plan_skips (hw : Region.wanted oi (yielded ops a.tmps) = false)
    (h : wpSteps P ops Q R rest (a.put oi.dst undef) w) : wpSteps P ops Q R ((oi, false) :: rest) a w := by
  simp only [wpSteps]
  rw [if_neg (by simp [hw])]
  exact h
theorem plan_does (hw : Region.wanted oi (yielded ops a.tmps) = true)
    (h : ∀ K : Act → World → Prop, (∀ a' w', R w w' → wpSteps P ops Q R rest a' w' → K a' w') → Oper.wp P oi a w K Q) : wpSteps P ops Q R ((oi, true) :: rest) a w := by
  simp only [wpSteps]
  intro K hK
  rw [if_pos hw]
  exact h K hK
theorem plan_end (h : Q .normal a w) : wpSteps P ops Q R [] a w := h
end
end

/-- Relations that a plan may go by. -/
class PlanRel (R : World → World → Prop) : Prop where
  refl' : ∀ w, R w w
  trans' : ∀ a b c, R a b → R b c → R a c
theorem PlanRel.refl (R : World → World → Prop) [h : PlanRel R] : ∀ w, R w w := h.refl'
theorem PlanRel.trans (R : World → World → Prop) [h : PlanRel R] : ∀ a b c, R a b → R b c → R a c := h.trans'
instance (S : Nat → Prop) : PlanRel (Fr S) := ⟨fun w => Fr.refl S w, fun _ _ _ h k => h.trans k (fun _ _ h => h)⟩
instance : PlanRel (fun _ _ => True) := ⟨fun _ => trivial, fun _ _ _ _ _ => trivial⟩
end Go.Proofs.YthcbjeeajoliiaaGreatDoor
