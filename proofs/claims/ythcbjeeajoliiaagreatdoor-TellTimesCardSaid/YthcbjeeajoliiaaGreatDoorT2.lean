/- trie.common; a node that is copied. -/
import Derived.Test.YthcbjeeajoliiaaGreatDoorT1
import Derived.Test.YthcbjeeajoliiaaGreatDoorW8
set_option linter.unusedVariables false
set_option linter.unusedSimpArgs false
namespace Go.Proofs.YthcbjeeajoliiaaGreatDoor
open Go.RowKit
open Cr (Str Rou)

theorem common_at (a b : Str) (n : Nat) (x y : UInt8) (hx : a[n]? = some x) (hy : b[n]? = some y) : Cr.common (a.drop n) (b.drop n) = if x = y then Cr.common (a.drop (n + 1)) (b.drop (n + 1)) + 1 else 0 := by
  obtain ⟨h1, rfl⟩ := List.getElem?_eq_some_iff.1 hx
  obtain ⟨h2, rfl⟩ := List.getElem?_eq_some_iff.1 hy
  rw [List.drop_eq_getElem_cons h1, List.drop_eq_getElem_cons h2]
  rfl
theorem common_nil_l (b : Str) : Cr.common [] b = 0 := by cases b <;> rfl
theorem common_nil_r (a : Str) : Cr.common a [] = 0 := by cases a <;> rfl
theorem common_le : ∀ a b : Str, Cr.common a b ≤ a.length ∧ Cr.common a b ≤ b.length
  | [], b => by rw [common_nil_l]; simp
  | a :: x, [] => by rw [common_nil_r]; simp
  | a :: x, b :: y => by
    have := common_le x y
    unfold Cr.common
    split
    · simp only [List.length_cons]; omega
    · simp

set_option maxRecDepth 100000 in
theorem common_any (w : World) (a b : Str) (ha : a.length ≤ 1000000) (hb : b.length ≤ 1000000) :
    Calls Tryz.prog 173 #[.string ⟨a.toArray⟩, .string ⟨b.toArray⟩] w fun e w' => e = .returned (.int .i64 (Cr.common a b : Nat)) ∧ Fr No w w' := by
  have ha' : (a.length : Int) ≤ 1000000 := by omega
  have hb' : (b.length : Int) ≤ 1000000 := by omega
  go_enter Tryz.func173, Tryz.ntmps173
  go_wp2_with fail
  go_loopg [5] a.length (fun gm r wr => ∃ n : Nat, n + gm = a.length ∧ r = .int .i64 n ∧ n ≤ b.length ∧ Fr No w wr ∧ Hid (Cr.common a b = n + Cr.common (a.drop n) (b.drop n)))
  case atStart => exact ⟨0, by omega, rfl, by omega, Fr.refl _ _, (by simp : Cr.common a b = 0 + Cr.common (a.drop 0) (b.drop 0))⟩
  case round =>
    obtain ⟨n, hn, rfl, hnb, hfr, HI⟩ := hrel
    by_cases h1 : n < a.length
    · have h1' : (n : Int) < (a.length : Int) := by omega
      by_cases h2 : n < b.length
      · have h2' : (n : Int) < (b.length : Int) := by omega
        obtain ⟨x, hx⟩ : ∃ x, a[n]? = some x := ⟨a[n], by simp [h1]⟩
        obtain ⟨y, hy⟩ : ∃ y, b[n]? = some y := ⟨b[n], by simp [h2]⟩
        have i1 := run_str_at (P := Tryz.prog) 9 Tryz.underlying9 a n x hx
        have i2 := run_str_at (P := Tryz.prog) 9 Tryz.underlying9 b n y hy
        have Hst := Lib.hid (common_at a b n x y hx hy)
        clear hx hy
        by_cases hxy : x = y
        · have hbe : ((x.toNat : Int) == (y.toNat : Int)) = true := by rw [hxy]; simp
          have Hxy := Lib.hid hxy
          clear hxy
          go_wp2_with fail
          go_region
          go_wp2_with fail
          go_roundg (gk - 1)
          case measure => omega
          case rel =>
            refine ⟨n + 1, by omega, by go_num, by omega, hfr.drew, ?_⟩
            have := HI.out
            rw [Hst.out, if_pos Hxy.out] at this
            show Cr.common a b = _
            omega
        · have hbe : ((x.toNat : Int) == (y.toNat : Int)) = false := by
            rw [beq_eq_false_iff_ne]
            intro h
            exact hxy (UInt8.toNat_inj.1 (by omega))
          have hc : Cr.common a b = n := by
            rw [HI.out, Hst.out, if_neg hxy]
            rfl
          have Hc := Lib.hid hc
          clear hxy hc
          go_wp2_with fail
          go_region
          go_wp2_with fail
          go_ret
          refine ⟨?_, hfr.drew⟩
          rw [Hc.out]
          rfl
      · have h2' : ¬ (n : Int) < (b.length : Int) := by omega
        have hc : Cr.common a b = n := by
          rw [HI.out, List.drop_of_length_le (l := b) (by omega), common_nil_r]
          rfl
        have Hc := Lib.hid hc
        clear hc
        go_wp2_with fail
        go_region
        go_wp2_with fail
        go_ret
        refine ⟨?_, hfr.drew⟩
        rw [Hc.out]
        rfl
    · have h1' : ¬ (n : Int) < (a.length : Int) := by omega
      have hc : Cr.common a b = n := by
        rw [HI.out, List.drop_of_length_le (l := a) (by omega), common_nil_l]
        rfl
      have Hc := Lib.hid hc
      clear hc
      go_wp2_with fail
      go_region
      go_wp2_with fail
      go_ret
      refine ⟨?_, hfr.drew⟩
      rw [Hc.out]
      rfl

/-- What a copy of the node n (none: the empty one) is: a fresh block, an own row of edges, the rest shared. -/
structure CopyAt (P : Nat → Prop) (N base : Nat) (w : World) (g : Nat) (A : Option Addr) (c : Nat) (pn pp pr D : Option Addr) (ps : List (Str × Option Addr)) (es : List (Str × Cr.Node)) (nx p r : Option Cr.Node) (ends : List Rou) : Prop where
  hg : base ≤ g
  hb : Blk w g 226 #[.slice A es.length c, .pointer pn, .pointer pp, .pointer pr, .slice D ends.length ends.length]
  own : w.ownsRow base 256 2 (.slice A es.length c) es.length (edgsV ps)
  hps : ps.map (·.1) = es.map (·.1)
  hN : es.length ≤ N
  hM : ends.length ≤ N
  ht : ∀ x ∈ es, x.1.length ≤ 1000000
  hD : Rd P w D (rousV ends)
  hes : ∀ (i : Nat) (t : Str) (m : Cr.Node) (q : Option Addr), es[i]? = some (t, m) → ps[i]? = some (t, q) → NodeAt P N w q (some m)
  hn : NodeAt P N w pn nx
  hp : NodeAt P N w pp p
  hr : NodeAt P N w pr r

theorem CopyAt.no {P : Nat → Prop} {N base : Nat} {w w' : World} {g : Nat} {A : Option Addr} {c : Nat} {pn pp pr D : Option Addr} {ps : List (Str × Option Addr)} {es : List (Str × Cr.Node)} {nx p r : Option Cr.Node} {ends : List Rou}
    (h : CopyAt P N base w g A c pn pp pr D ps es nx p r ends) (hf : Fr No w w') : CopyAt P N base w' g A c pn pp pr D ps es nx p r ends :=
  ⟨h.hg, h.hb.fr hf id, h.own.fr hf (fun _ _ h => h), h.hps, h.hN, h.hM, h.ht, h.hD.fr hf (fun _ _ h => h), fun i t m q h1 h2 => (h.hes i t m q h1 h2).no hf, h.hn.no hf, h.hp.no hf, h.hr.no hf⟩
theorem CopyAt.node {P : Nat → Prop} {N base : Nat} {w : World} {g : Nat} {A : Option Addr} {c : Nat} {pn pp pr D : Option Addr} {ps : List (Str × Option Addr)} {es : List (Str × Cr.Node)} {nx p r : Option Cr.Node} {ends : List Rou}
    (h : CopyAt P N base w g A c pn pp pr D ps es nx p r ends) (hP : ∀ k, base ≤ k → P k) : NodeAt P N w (some ⟨g, 0, none⟩) (some (.mk es nx p r ends)) :=
  .mk g A D c ends.length pn pp pr es ps nx p r ends (hP g h.hg) h.hb h.own.capOf (Nat.le_refl _) (fun hA => h.own.nilOf hA) h.hps h.hN h.hM h.ht (h.own.rd hP) h.hD h.hes h.hn h.hp h.hr

def nodeOr (n : Option Cr.Node) : Cr.Node := n.getD .empty

theorem copied_at (P : Nat → Prop) (N : Nat) (w : World) (q : Option Addr) (n : Option Cr.Node) (h : NodeAt P N w q n) (hN : N ≤ 1000000) :
    Calls Tryz.prog 136 #[.pointer q] w fun e w' => ∃ g A c pn pp pr D ps es nx p r ends, e = .returned (.pointer (some ⟨g, 0, none⟩)) ∧ nodeOr n = .mk es nx p r ends ∧
      CopyAt P N w.heap.size w' g A c pn pp pr D ps es nx p r ends ∧ Fr No w w' := by
  cases h with
  | nil =>
    refine (copied_nil w).mono ?_
    rintro e w' ⟨g, rfl, hg, hb, hf⟩
    exact ⟨g, none, 0, none, none, none, none, [], [], none, none, none, [], rfl, rfl, ⟨hg, hb, ⟨rfl, .inl ⟨rfl, rfl⟩⟩, rfl, by simp, by simp, by simp, Rd.nil _ _ _, by simp, .nil, .nil, .nil⟩, hf⟩
  | mk g A D c d pn pp pr es ps nx p r ends hg hb hc hd hA hps hN1 hM ht hE hD hes hn hp hr =>
    have hl : ps.length = es.length := by
      have := congrArg List.length hps
      simpa using this
    refine (copied_some P w g A D es.length c ends.length d pn pp pr (edgsV ps) hb (by rw [edgsV_length, hl]) hA hE (edgsV_one ps) (by omega) hd).mono ?_
    rintro e w' ⟨g', v, rfl, hg', hb', hown, hf⟩
    obtain ⟨A', c', rfl, _, _⟩ := own_form hown
    exact ⟨g', A', c', pn, pp, pr, D, ps, es, nx, p, r, ends, rfl, rfl, ⟨hg', hb', hown, hps, hN1, hM, ht, hD.fr hf (fun _ _ h => h), fun i t m q h1 h2 => (hes i t m q h1 h2).no hf, hn.no hf, hp.no hf, hr.no hf⟩, hf⟩
end Go.Proofs.YthcbjeeajoliiaaGreatDoor
