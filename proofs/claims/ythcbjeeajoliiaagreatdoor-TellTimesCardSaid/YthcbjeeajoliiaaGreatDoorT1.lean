/- A trie's node in memory. -/
import Derived.Test.YthcbjeeajoliiaaGreatDoorW1
set_option linter.unusedVariables false
set_option linter.unusedSimpArgs false
namespace Go.Proofs.YthcbjeeajoliiaaGreatDoor
open Go.RowKit
open Cr (Str Rou)

def rouV (r : Rou) : List Value := [.string ⟨r.method.toArray⟩, .string ⟨r.pattern.toArray⟩, .string ⟨r.handler.toArray⟩]
def rousV (l : List Rou) : List Value := l.flatMap rouV
theorem rousV_length (l : List Rou) : (rousV l).length = l.length * 3 := flat_length rouV 3 (fun _ => rfl) l
theorem rousV_append (l m : List Rou) : rousV (l ++ m) = rousV l ++ rousV m := by simp [rousV]
theorem rousV_one (l : List Rou) : ∀ u ∈ rousV l, u.oneCell' = true := by
  intro u hu
  obtain ⟨r, _, hr⟩ := List.mem_flatMap.1 hu
  simp only [rouV, List.mem_cons, List.not_mem_nil, or_false] at hr
  rcases hr with rfl | rfl | rfl <;> rfl

/-- An edge's two cells. -/
def edgV (x : Str × Option Addr) : List Value := [.string ⟨x.1.toArray⟩, .pointer x.2]
def edgsV (l : List (Str × Option Addr)) : List Value := l.flatMap edgV
theorem edgsV_length (l : List (Str × Option Addr)) : (edgsV l).length = l.length * 2 := flat_length edgV 2 (fun _ => rfl) l
theorem edgsV_one (l : List (Str × Option Addr)) : ∀ u ∈ edgsV l, u.oneCell' = true := by
  intro u hu
  obtain ⟨r, _, hr⟩ := List.mem_flatMap.1 hu
  simp only [edgV, List.mem_cons, List.not_mem_nil, or_false] at hr
  rcases hr with rfl | rfl <;> rfl

/-- p leads to the node n (none: it is nil), through blocks of P; no node has more than N edges or ends, no text is long. -/
inductive NodeAt (P : Nat → Prop) (N : Nat) (w : World) : Option Addr → Option Cr.Node → Prop
  | nil : NodeAt P N w none none
  | mk (g : Nat) (A D : Option Addr) (c d : Nat) (pn pp pr : Option Addr) (es : List (Str × Cr.Node)) (ps : List (Str × Option Addr)) (nx p r : Option Cr.Node) (ends : List Rou)
      (hg : P g) (hb : Blk w g 226 #[.slice A es.length c, .pointer pn, .pointer pp, .pointer pr, .slice D ends.length d])
      (hc : es.length ≤ c) (hd : ends.length ≤ d) (hA : A = none → es.length = 0) (hps : ps.map (·.1) = es.map (·.1)) (hN : es.length ≤ N) (hM : ends.length ≤ N) (ht : ∀ x ∈ es, x.1.length ≤ 1000000)
      (hE : Rd P w A (edgsV ps)) (hD : Rd P w D (rousV ends))
      (hes : ∀ (i : Nat) (t : Str) (m : Cr.Node) (q : Option Addr), es[i]? = some (t, m) → ps[i]? = some (t, q) → NodeAt P N w q (some m))
      (hn : NodeAt P N w pn nx) (hp : NodeAt P N w pp p) (hr : NodeAt P N w pr r) : NodeAt P N w (some ⟨g, 0, none⟩) (some (Cr.Node.mk es nx p r ends))

theorem NodeAt.fr {P S : Nat → Prop} {N : Nat} {w w' : World} {q : Option Addr} {n : Option Cr.Node} (h : NodeAt P N w q n) (hf : Fr S w w') (hS : ∀ k, P k → ¬ S k) : NodeAt P N w' q n := by
  induction h with
  | nil => exact .nil
  | mk g A D c d pn pp pr es ps nx p r ends hg hb hc hd hA hps hN hM ht hE hD hes hn hp hr ihes ihn ihp ihr =>
    exact .mk g A D c d pn pp pr es ps nx p r ends hg (hb.fr hf (hS g hg)) hc hd hA hps hN hM ht (hE.fr hf hS) (hD.fr hf hS) ihes ihn ihp ihr
theorem NodeAt.no {P : Nat → Prop} {N : Nat} {w w' : World} {q : Option Addr} {n : Option Cr.Node} (h : NodeAt P N w q n) (hf : Fr No w w') : NodeAt P N w' q n := h.fr hf (fun _ _ h => h)
theorem NodeAt.mono {P P' : Nat → Prop} {N N' : Nat} {w : World} {q : Option Addr} {n : Option Cr.Node} (h : NodeAt P N w q n) (hNN : N ≤ N') (hS : ∀ k, k < w.heap.size → P k → P' k) : NodeAt P' N' w q n := by
  induction h with
  | nil => exact .nil
  | mk g A D c d pn pp pr es ps nx p r ends hg hb hc hd hA hps hN hM ht hE hD hes hn hp hr ihes ihn ihp ihr =>
    exact .mk g A D c d pn pp pr es ps nx p r ends (hS g hb.lt hg) hb hc hd hA hps (Nat.le_trans hN hNN) (Nat.le_trans hM hNN) ht (hE.mono hS) (hD.mono hS) ihes ihn ihp ihr
theorem NodeAt.up {P : Nat → Prop} {N : Nat} {w : World} {q : Option Addr} {n : Option Cr.Node} (h : NodeAt P N w q n) : NodeAt P (N + 1) w q n := h.mono (by omega) (fun _ _ h => h)

theorem edgsV_append (l m : List (Str × Option Addr)) : edgsV (l ++ m) = edgsV l ++ edgsV m := by simp [edgsV]
theorem edgsV_set : ∀ (ps : List (Str × Option Addr)) (i : Nat) (t : Str) (q : Option Addr), i < ps.length → edgsV (ps.set i (t, q)) = ((edgsV ps).set (i * 2) (.string ⟨t.toArray⟩)).set (i * 2 + 1) (.pointer q)
  | [], i, t, q, h => by simp at h
  | x :: ps, 0, t, q, h => by simp [edgsV, edgV]
  | x :: ps, i + 1, t, q, h => by
    have ih := edgsV_set ps i t q (by simpa using h)
    simp only [edgsV, List.set_cons_succ, List.flatMap_cons, edgV, List.cons_append, List.nil_append] at ih ⊢
    rw [ih, show (i + 1) * 2 = i * 2 + 1 + 1 from by omega]
    simp
theorem edgsV_set_to (ps : List (Str × Option Addr)) (i : Nat) (t : Str) (q q0 : Option Addr) (h : ps[i]? = some (t, q0)) : edgsV (ps.set i (t, q)) = (edgsV ps).set (i * 2 + 1) (.pointer q) := by
  have hi : i < ps.length := (List.getElem?_eq_some_iff.1 h).1
  rw [edgsV_set ps i t q hi]
  congr 1
  apply List.ext_getElem?
  intro j
  rw [List.getElem?_set]
  split
  · rename_i hj
    subst hj
    have := flat_get edgV 2 (fun _ => rfl) ps i (t, q0) h 0 (by omega)
    simp only [Nat.add_zero] at this
    have hlen := edgsV_length ps
    rw [if_pos (by omega)]
    exact this.symm
  · rfl

section
variable {w : World} {base : Nat} {e : TypeId} {size n : Nat} {v : Value} {xs : List Value} {g c : Nat}
theorem _root_.Go.World.ownsRow.put_ (h : w.ownsRow base e size (.slice (some ⟨g, 0, none⟩) n c) n xs) (j : Nat) (u : Value) :
    (w.setCell ⟨g, j, none⟩ u).ownsRow base e size (.slice (some ⟨g, 0, none⟩) n c) n (xs.set j u) := by
  refine ⟨by simpa using h.1, ?_⟩
  rcases h.2 with ⟨h1, _⟩ | ⟨g', cap, cur, h1, hb, hg, hnc, hcm, hcs, ht⟩
  · cases h1
  · injection h1 with h1 h2 h3
    injection h1 with h1
    injection h1 with h1
    subst h1 h3
    refine .inr ⟨g, c, cur.setIfInBounds j u, rfl, hb, ?_, hnc, hcm, by simpa using hcs, ?_⟩
    · simp [World.setCell, Array.getElem?_modify, hg]
    · rw [Array.toList_setIfInBounds, List.take_set, ht]
theorem _root_.Go.World.ownsRow.unfrozen (h : w.ownsRow base e size (.slice (some ⟨g, 0, none⟩) n c) n xs) (j : Nat) : w.frozen? ⟨g, j, none⟩ = false := by
  rcases h.2 with ⟨h1, _⟩ | ⟨g', cap, cur, h1, hb, hg, _⟩
  · cases h1
  · injection h1 with h1 h2 h3
    injection h1 with h1
    injection h1 with h1
    subst h1
    simp [World.frozen?, hg]
theorem _root_.Go.World.ownsRow.at_ (h : w.ownsRow base e size (.slice (some ⟨g, 0, none⟩) n c) n xs) {j : Nat} {u : Value} (hu : xs[j]? = some u) : w.cell? ⟨g, j, none⟩ = some u := by
  have := h.cells (g := g) rfl j u hu
  rwa [show (⟨g, 0, none⟩ : Addr).add j = ⟨g, j, none⟩ by unfold Addr.add; split <;> simp_all] at this
theorem _root_.Go.World.ownsRow.ofPos (h : w.ownsRow base e size v n xs) (hn : 0 < n) : ∃ g c, v = .slice (some ⟨g, 0, none⟩) n c ∧ n ≤ c ∧ base ≤ g ∧ g < w.heap.size := by
  rcases h.2 with ⟨h1, h2⟩ | ⟨g', cap, cur, h1, hb, hg, hnc, _⟩
  · omega
  · exact ⟨g', cap, h1, hnc, hb, (Array.getElem?_eq_some_iff.1 hg).1⟩
theorem _root_.Go.World.ownsRow.rd {P : Nat → Prop} {A : Option Addr} (h : w.ownsRow base e size (.slice A n c) n xs) (hP : ∀ k, base ≤ k → P k) : Rd P w A xs :=
  (Rd.of_own h).mono fun k _ hk => hP k (h.lt k hk).1
theorem _root_.Go.World.ownsRow.nilOf {A : Option Addr} (h : w.ownsRow base e size (.slice A n c) n xs) (hA : A = none) : n = 0 := by
  rcases h.2 with ⟨h1, h2⟩ | ⟨g', cap, cur, h1, hb, hg, hnc, _⟩
  · exact h2
  · injection h1 with h1
    subst hA
    cases h1
theorem _root_.Go.World.ownsRow.capOf {A : Option Addr} (h : w.ownsRow base e size (.slice A n c) n xs) : n ≤ c := by
  rcases h.2 with ⟨h1, h2⟩ | ⟨g', cap, cur, h1, hb, hg, hnc, _⟩
  · injection h1; omega
  · injection h1; omega
end
end Go.Proofs.YthcbjeeajoliiaaGreatDoor
