/- Regions that draw their order, walked by a plan that may part: two that may come up, either first. -/
import Derived.Test.YthcbjeeajoliiaaGreatDoorR
set_option linter.unusedVariables false
namespace Go.Proofs.YthcbjeeajoliiaaGreatDoor
open Go.RowKit

/-- A plan that may part. -/
inductive PT where
  | nil
  | one (i : Nat) (eff : Bool) (rest : PT)
  | two (i : Nat) (ri : PT) (j : Nat) (rj : PT)
def PT.len : PT → Nat
  | .nil => 0
  | .one _ _ r => r.len + 1
  | .two _ ri _ _ => ri.len + 1
/-- Its operations written out. -/
inductive ST where
  | nil
  | one (o : Oper) (eff : Bool) (rest : ST)
  | two (o : Oper) (ri : ST) (o' : Oper) (rj : ST)

section
variable {P : Program} {ops : Array Oper} {Q : Exit → Act → World → Prop}

def treeOk (ops : Array Oper) : Array Bool → PT → Bool
  | listed, .nil => (Region.ready .any ops listed).isEmpty
  | listed, .one i false r => Region.free .any ops listed i && (Region.ready .any ops listed).contains i && treeOk ops (listed.setIfInBounds i true) r
  | listed, .one i true r => (Region.ready .any ops listed == [i]) && treeOk ops (listed.setIfInBounds i true) r
  | listed, .two i ri j rj => (Region.ready .any ops listed == [i, j]) && treeOk ops (listed.setIfInBounds i true) ri && treeOk ops (listed.setIfInBounds j true) rj && (ri.len == rj.len)

def treeOf (ops : Array Oper) : PT → Option ST
  | .nil => some .nil
  | .one i b r => match ops[i]?, treeOf ops r with
    | some o, some s => some (.one o b s)
    | _, _ => none
  | .two i ri j rj => match ops[i]?, treeOf ops ri, ops[j]?, treeOf ops rj with
    | some o, some s, some o', some s' => some (.two o s o' s')
    | _, _, _, _ => none

def wpST (P : Program) (ops : Array Oper) (Q : Exit → Act → World → Prop) (R : World → World → Prop) : ST → Act → World → Prop
  | .nil, a, w => Q .normal a w
  | .one oi false r, a, w =>
      (if Region.wanted oi (yielded ops a.tmps) = true then ∃ v, (∀ w', R w w' → (execOp a.eval oi).run P w' = .ok (.value v) w') ∧ wpST P ops Q R r (a.put oi.dst v) w
       else wpST P ops Q R r (a.put oi.dst undef) w)
  | .one oi true r, a, w =>
      ∀ K : Act → World → Prop, (∀ a' w', R w w' → wpST P ops Q R r a' w' → K a' w') → (if Region.wanted oi (yielded ops a.tmps) = true then Oper.wp P oi a w K Q else K (a.put oi.dst undef) w)
  | .two oi ri oj rj, a, w =>
      (∀ K : Act → World → Prop, (∀ a' w', R w w' → wpST P ops Q R ri a' w' → K a' w') → (if Region.wanted oi (yielded ops a.tmps) = true then Oper.wp P oi a w K Q else K (a.put oi.dst undef) w)) ∧
      (∀ K : Act → World → Prop, (∀ a' w', R w w' → wpST P ops Q R rj a' w' → K a' w') → (if Region.wanted oj (yielded ops a.tmps) = true then Oper.wp P oj a w K Q else K (a.put oj.dst undef) w))

theorem wpAnyH_tree (R : World → World → Prop) (hrefl : ∀ w, R w w) (htrans : ∀ a b c, R a b → R b c → R a c) (hsel : Region.noSelect ops = true)
    (hQ : ∀ c a d v w, Q (.panic c) (a.put d v) w → Q (.panic c) a w) :
    ∀ (t : PT) (s : ST) (listed : Array Bool) (a : Act) (w : World), treeOk ops listed t = true → treeOf ops t = some s → wpST P ops Q R s a w → wpAnyH P .any ops Q (R w) t.len listed a w
  | .nil, s, listed, a, w, hp, hs, h => by
    simp only [treeOf, Option.some.injEq] at hs
    subst hs
    exact wpAnyH_done (by simpa [treeOk] using hp) h _
  | .one i false r, s, listed, a, w, hp, hs, h => by
    simp only [treeOk, Bool.and_eq_true] at hp
    simp only [treeOf] at hs
    split at hs
    · rename_i o s' hi hs'
      simp only [Option.some.injEq] at hs
      subst hs
      simp only [wpST] at h
      by_cases hw : Region.wanted o (yielded ops a.tmps) = true
      · rw [if_pos hw] at h
        obtain ⟨v, hv, h⟩ := h
        exact wpAnyH_take hi hsel hp.1.1 hp.1.2 (fun c a w h => hQ c a _ _ w h) (.inl ⟨hw, hv⟩) (hrefl w) (wpAnyH_tree R hrefl htrans hsel hQ r _ _ _ w hp.2 hs' h)
      · rw [if_neg hw] at h
        exact wpAnyH_take hi hsel hp.1.1 hp.1.2 (fun c a w h => hQ c a _ _ w h) (.inr ⟨by simpa using hw, rfl⟩) (hrefl w) (wpAnyH_tree R hrefl htrans hsel hQ r _ _ _ w hp.2 hs' h)
    · cases hs
  | .one i true r, s, listed, a, w, hp, hs, h => by
    simp only [treeOk, Bool.and_eq_true, beq_iff_eq] at hp
    simp only [treeOf] at hs
    split at hs
    · rename_i o s' hi hs'
      simp only [Option.some.injEq] at hs
      subst hs
      refine wpAnyH_all hp.1 (by simp) ?_
      intro j hj
      obtain rfl : j = i := by simpa using hj
      refine wpOp_step hi fun K hK => h K fun a' w' hR hwp => hK a' w' ⟨hR, ?_⟩
      exact wpAnyH_mono (fun x hx => htrans _ _ _ hR hx) _ _ _ _ (wpAnyH_tree R hrefl htrans hsel hQ r _ _ _ w' hp.2 hs' hwp)
    · cases hs
  | .two i ri j rj, s, listed, a, w, hp, hs, h => by
    simp only [treeOk, Bool.and_eq_true, beq_iff_eq] at hp
    obtain ⟨⟨⟨hr, h1⟩, h2⟩, hlen⟩ := hp
    simp only [treeOf] at hs
    split at hs
    · rename_i o s1 o' s2 hi hs1 hj hs2
      simp only [Option.some.injEq] at hs
      subst hs
      refine wpAnyH_all hr (by simp) ?_
      intro q hq
      simp only [List.mem_cons, List.not_mem_nil, or_false] at hq
      rcases hq with rfl | rfl
      · refine wpOp_step hi fun K hK => h.1 K fun a' w' hR hwp => hK a' w' ⟨hR, ?_⟩
        exact wpAnyH_mono (fun x hx => htrans _ _ _ hR hx) _ _ _ _ (wpAnyH_tree R hrefl htrans hsel hQ ri _ _ _ w' h1 hs1 hwp)
      · refine wpOp_step hj fun K hK => h.2 K fun a' w' hR hwp => hK a' w' ⟨hR, ?_⟩
        rw [hlen]
        exact wpAnyH_mono (fun x hx => htrans _ _ _ hR hx) _ _ _ _ (wpAnyH_tree R hrefl htrans hsel hQ rj _ _ _ w' h2 hs2 hwp)
    · cases hs

/-- A region that draws its order, by a plan that parts. -/
theorem wp_region_tree {id : Nat} {a : Act} {w : World} (R : World → World → Prop) (t : PT) (hm : P.follows .mixedOrders = true) (hrefl : ∀ w, R w w) (htrans : ∀ a b c, R a b → R b c → R a c)
    (hQ : ∀ c a d v w, Q (.panic c) (a.put d v) w → Q (.panic c) a w)
    (hok : (Region.noSelect ops && treeOk ops (Array.replicate ops.size false) t && t.len == ops.size) = true)
    (h : ∀ s, treeOf ops t = some s → wpST P ops Q R s a w.drew) (hl : (treeOf ops t).isSome = true) : (Code.region id ops true).wp P Q a w := by
  obtain ⟨s, hs⟩ := Option.isSome_iff_exists.1 hl
  simp only [Bool.and_eq_true, beq_iff_eq] at hok
  refine wp_region_held (S := R w.drew) hm ?_
  have h' := wpAnyH_tree R hrefl htrans hok.1.1 (Q := Q) hQ t s (Array.replicate ops.size false) a w.drew hok.1.2 hs (h s hs)
  rw [hok.2] at h'
  exact h'

section
variable {R : World → World → Prop} {rest ri rj : ST} {a : Act} {w : World} {oi oj : Oper}
theorem tree_reads (v : Value) (hw : Region.wanted oi (yielded ops a.tmps) = true)
    (hv : ∀ w', R w w' → (execOp a.eval oi).run P w' = .ok (.value v) w') (h : wpST P ops Q R rest (a.put oi.dst v) w) : wpST P ops Q R (.one oi false rest) a w := by
  simp only [wpST]
  rw [if_pos hw]
  exact ⟨v, hv, h⟩
theorem tree_skips (hw : Region.wanted oi (yielded ops a.tmps) = false)
    (h : wpST P ops Q R rest (a.put oi.dst undef) w) : wpST P ops Q R (.one oi false rest) a w := by
  simp only [wpST]
  rw [if_neg (by simp [hw])]
  exact h
theorem tree_does (hw : Region.wanted oi (yielded ops a.tmps) = true)
    (h : ∀ K : Act → World → Prop, (∀ a' w', R w w' → wpST P ops Q R rest a' w' → K a' w') → Oper.wp P oi a w K Q) : wpST P ops Q R (.one oi true rest) a w := by
  simp only [wpST]
  intro K hK
  rw [if_pos hw]
  exact h K hK
theorem tree_two (hwi : Region.wanted oi (yielded ops a.tmps) = true) (hwj : Region.wanted oj (yielded ops a.tmps) = true)
    (hi : ∀ K : Act → World → Prop, (∀ a' w', R w w' → wpST P ops Q R ri a' w' → K a' w') → Oper.wp P oi a w K Q)
    (hj : ∀ K : Act → World → Prop, (∀ a' w', R w w' → wpST P ops Q R rj a' w' → K a' w') → Oper.wp P oj a w K Q) : wpST P ops Q R (.two oi ri oj rj) a w := by
  simp only [wpST]
  refine ⟨fun K hK => ?_, fun K hK => ?_⟩
  · rw [if_pos hwi]
    exact hi K hK
  · rw [if_pos hwj]
    exact hj K hK
theorem tree_end (h : Q .normal a w) : wpST P ops Q R .nil a w := h
end
end
section
variable {P : Program} (w : World)
/-- 'append(out, xs...)' at one operation: out nil or of the call's own. -/
theorem op_app {Pr : Nat → Prop} {o : Oper} {a : Act} {K : Act → World → Prop} {Q : Exit → Act → World → Prop} (s x : Operand) (t : TypeId)
    (ho : o.op = .call { callee := .builtin .append, args := #[s, x], argTypes := #[t, t] })
    (base : Nat) (e : TypeId) (z : Value) (size bytes : Nat) (ht : P.underlying t = some (.slice e))
    (hinfo : (P.info? e).map (fun i => (i.zero, i.size, i.bytes)) = some (some z, size, bytes)) (hzs : z.cells.size = size) (hsz : 0 < size)
    (v : Value) (n : Nat) (xs : List Value) (hs : a.eval s = v) (hown : w.ownsRow base e size v n xs)
    (A : Option Addr) (m c : Nat) (news : List Value) (hx : a.eval x = .slice A m c) (hl : news.length = m * size) (hr : Rd Pr w A news) (h1 : ∀ u ∈ news, u.oneCell' = true)
    (hbytes : (n + m) * bytes ≤ 140737488355328) (hb0 : 0 < bytes) (hbase : base ≤ w.heap.size)
    (h : ∀ v' w', w'.ownsRow base e size v' (n + m) (xs ++ news) → Fr (fun k => v.ownBlock = some k) w w' → (v'.ownBlock = v.ownBlock ∨ v'.ownBlock = some w.heap.size) → K (a.put o.dst v') w') :
    Oper.wp P o a w K Q := by
  obtain ⟨v', w', hrun, h2, h3, h4⟩ := run_app (P := P) w base t o.type e z size bytes ht hinfo hzs hsz v n xs hown A m c news hl hr h1 hbytes hb0 hbase
  unfold Oper.wp execOp
  simp only [ho, resolve, invoke, builtin, Sem.run_bind, Sem.run_pure, Result.andThen_ok, List.map_toArray, List.map_cons, List.map_nil, hs, hx, hrun]
  exact h v' w' h2 ((Fr.of_grown h3).mono fun k _ hk => hk.symm) h4
end
end Go.Proofs.YthcbjeeajoliiaaGreatDoor
