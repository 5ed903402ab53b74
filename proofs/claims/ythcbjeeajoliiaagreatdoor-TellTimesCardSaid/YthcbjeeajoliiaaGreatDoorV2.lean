/- The trie's makers: slices.Clone of edges, a node that is copied. -/
import Derived.Test.YthcbjeeajoliiaaGreatDoorV1
import Derived.Lib.BufferMore
set_option linter.unusedVariables false
set_option linter.unusedSimpArgs false
namespace Go.Proofs.YthcbjeeajoliiaaGreatDoor
open Go.RowKit

/-- An edge's cells, from its text and its node's pointer. -/
def edgesV : List (List UInt8 × Value) → List Value
  | [] => []
  | (s, p) :: l => .string ⟨s.toArray⟩ :: p :: edgesV l

theorem infoEdge : (Tryz.prog.info? 256).map (fun i => (i.zero, i.size, i.bytes)) = some (some (.agg #[.string ⟨#[]⟩, .pointer none]), 2, 24) := by kernel_rfl

set_option maxRecDepth 100000 in
theorem clone_any (Pr : Nat → Prop) (w : World) (ad : Addr) (n c : Nat) (xs : List Value) (hl : xs.length = n * 2) (hr : Rd Pr w (some ad) xs) (h1 : ∀ u ∈ xs, u.oneCell' = true) (hn : n ≤ 1000000) :
    Calls Tryz.prog 172 #[.slice (some ad) n c] w fun e w' => ∃ v, e = .returned v ∧ w'.ownsRow w.heap.size 256 2 v n xs ∧ Fr No w w' := by
  have heq : ∀ w, (binOp .eql 224 (.slice (some ad) n c) (.slice none 0 0)).run Tryz.prog w = .ok (.bool false) w := fun w => Lib.run_eql_slice_nil (P := Tryz.prog) w 224 256 (some ad) n c 0 0 Tryz.underlying224
  go_enter Tryz.func172, Tryz.ntmps172
  have hown : (w.alloc (.cells #[] 256)).ownsRow w.heap.size 256 2 (.slice (some ⟨w.heap.size, 0, none⟩) 0 0) 0 [] := ⟨rfl, .inr ⟨w.heap.size, 0, #[], rfl, Nat.le_refl _, Blk.new w _ _, Nat.le_refl _, by decide, rfl, rfl⟩⟩
  have hr1 : Rd Pr w.drew (some ad) xs := hr
  have hr2 : Rd Pr (w.alloc (.cells #[] 256)) (some ad) xs := Rd.fr (S := No) hr ((Fr.refl _ _).alloc _) (fun _ _ h => h)
  go_wp2_with (at_builtin; go_must (refine wpList_app (Pr := Pr) _ rfl (.tmp 5) (.tmp 6) _ rfl w.heap.size 256 _ 2 24 Tryz.underlying224 infoEdge rfl (by decide) (.slice (some ⟨w.heap.size, 0, none⟩) 0 0) 0 [] rfl ?a0 (some ad) n c xs rfl hl ?a1 h1 ?a4 (by decide) ?a5 ?_))
  case a0 => exact hown
  case a1 => exact hr2
  case a4 => omega
  case a5 => simp
  intro v' w1 hown1 hf1 hob
  go_wp2_with fail
  go_ret
  refine ⟨v', rfl, hown1, ((Fr.refl No w).alloc _).trans hf1 ?_⟩
  rintro i hi hs
  simp [Value.ownBlock] at hs
  omega

set_option maxRecDepth 100000 in
theorem clone_nil (w : World) (n c : Nat) :
    Calls Tryz.prog 172 #[.slice none n c] w fun e w' => e = .returned (.slice none 0 0) ∧ Fr No w w' := by
  have heq : ∀ w, (binOp .eql 224 (.slice none n c) (.slice none 0 0)).run Tryz.prog w = .ok (.bool true) w := fun w => Lib.run_eql_slice_nil (P := Tryz.prog) w 224 256 none n c 0 0 Tryz.underlying224
  go_enter Tryz.func172, Tryz.ntmps172
  go_wp2_with fail
  go_ret
  exact ⟨rfl, Fr.refl _ _⟩

theorem clone_all (Pr : Nat → Prop) (w : World) (A : Option Addr) (n c : Nat) (xs : List Value) (hl : xs.length = n * 2) (hA : A = none → n = 0) (hr : Rd Pr w A xs) (h1 : ∀ u ∈ xs, u.oneCell' = true) (hn : n ≤ 1000000) (W : World) (hW : Fr No w W) :
    Calls Tryz.prog 172 #[.slice A n c] W fun e w' => ∃ v, e = .returned v ∧ w'.ownsRow w.heap.size 256 2 v n xs ∧ Fr No W w' := by
  cases A with
  | none =>
    refine (clone_nil W n c).mono ?_
    rintro e w' ⟨rfl, hf⟩
    have h0 := hA rfl
    subst h0
    obtain rfl : xs = [] := List.eq_nil_of_length_eq_zero (by omega)
    exact ⟨_, rfl, ⟨rfl, .inl ⟨rfl, rfl⟩⟩, hf⟩
  | some ad =>
    refine (clone_any Pr W ad n c xs hl (hr.fr hW (fun _ _ h => h)) h1 hn).mono ?_
    rintro e w' ⟨v, rfl, ho, hf⟩
    exact ⟨v, rfl, ho.weaken hW.size, hf⟩

set_option maxRecDepth 100000 in
theorem copied_nil (w : World) :
    Calls Tryz.prog 136 #[.pointer none] w fun e w' => ∃ g, e = .returned (.pointer (some ⟨g, 0, none⟩)) ∧ w.heap.size ≤ g ∧ Blk w' g 226 #[.slice none 0 0, .pointer none, .pointer none, .pointer none, .slice none 0 0] ∧ Fr No w w' := by
  go_enter Tryz.func136, Tryz.ntmps136
  go_wp2_with fail
  go_ret
  exact ⟨w.heap.size, rfl, Nat.le_refl _, Blk.new _ _ _, (Fr.refl _ _).alloc _⟩

set_option maxRecDepth 100000 in
theorem copied_some (Pr : Nat → Prop) (w : World) (b : Nat) (A D : Option Addr) (n c m d : Nat) (nx pa re : Option Addr) (xs : List Value) (hb : Blk w b 226 #[.slice A n c, .pointer nx, .pointer pa, .pointer re, .slice D m d])
    (hl : xs.length = n * 2) (hA : A = none → n = 0) (hr : Rd Pr w A xs) (h1 : ∀ u ∈ xs, u.oneCell' = true) (hn : n ≤ 1000000) (hmd : m ≤ d) :
    Calls Tryz.prog 136 #[.pointer (some ⟨b, 0, none⟩)] w fun e w' => ∃ g v, e = .returned (.pointer (some ⟨g, 0, none⟩)) ∧ w.heap.size ≤ g ∧ Blk w' g 226 #[v, .pointer nx, .pointer pa, .pointer re, .slice D m m] ∧ w'.ownsRow w.heap.size 256 2 v n xs ∧ Fr No w w' := by
  have hc0 : w.cell? ⟨b, 0, none⟩ = some (.slice A n c) := hb.cell 0
  have hc1 : w.cell? ⟨b, 1, none⟩ = some (.pointer nx) := hb.cell 1
  have hc2 : w.cell? ⟨b, 2, none⟩ = some (.pointer pa) := hb.cell 2
  have hc3 : w.cell? ⟨b, 3, none⟩ = some (.pointer re) := hb.cell 3
  have hc4 : w.cell? ⟨b, 4, none⟩ = some (.slice D m d) := hb.cell 4
  have hb1 := hb.alloc (.cells #[.slice A n c, .pointer nx, .pointer pa, .pointer re, .slice D m d] 226)
  have hf1 : Fr No w (w.alloc (.cells #[.slice A n c, .pointer nx, .pointer pa, .pointer re, .slice D m d] 226)) := (Fr.refl _ _).alloc _
  have hg1 := Blk.new w 226 #[.slice A n c, .pointer nx, .pointer pa, .pointer re, .slice D m d]
  have hbg : b < w.heap.size := hb.lt
  have HC := Lib.hid (clone_all Pr w A n c xs hl hA hr h1 hn _ hf1)
  have hd0 := hb1.cell 0
  have hd0' : (w.alloc (.cells #[.slice A n c, .pointer nx, .pointer pa, .pointer re, .slice D m d] 226)).cell? ⟨b, 0, none⟩ = some (.slice A n c) := hd0
  clear hd0
  go_enter Tryz.func136, Tryz.ntmps136
  go_wp2_with (go_at_call 172; refine HC.out.mono ?_)
  rintro e w1 ⟨v, rfl, ho, hf2⟩
  obtain ⟨Av, cv, rfl, hcv, hrv⟩ := own_form ho
  obtain ⟨g, hg⟩ : ∃ g, w.heap.size = g := ⟨_, rfl⟩
  have hgb := hg1.fr hf2 (fun h => h)
  have hbb := hb1.fr hf2 (fun h => h)
  rw [hg] at hgb ⊢
  have hs2 := hgb.set_ 0 (.slice Av n cv)
  have hs3 := hbb.far (p := ⟨g, 0, none⟩) (by dsimp; omega) (.slice Av n cv)
  have e0 : w1.cell? ⟨g, 0, none⟩ = some (.slice A n c) := hgb.cell 0
  have e1 : w1.frozen? ⟨g, 0, none⟩ = false := hgb.frozen 0
  have e2 : (w1.setCell ⟨g, 0, none⟩ (.slice Av n cv)).cell? ⟨b, 4, none⟩ = some (.slice D m d) := hs3.cell 4
  have e3 : (w1.setCell ⟨g, 0, none⟩ (.slice Av n cv)).cell? ⟨g, 4, none⟩ = some (.slice D m d) := hs2.cell 4
  have e4 : (w1.setCell ⟨g, 0, none⟩ (.slice Av n cv)).frozen? ⟨g, 4, none⟩ = false := hs2.frozen 4
  have hmd' : (m : Int) ≤ (d : Int) := by omega
  go_wp2_with fail
  go_region
  go_wp2_with fail
  go_ret
  have hne : ∀ k, (Value.slice Av n cv).ownBlock = some k → ¬ k = g := by
    rintro k hk rfl
    rcases ho.2 with ⟨h, _⟩ | ⟨g', cap, cur, h, _, hh, _⟩
    · injection h with h
      subst h
      simp [Value.ownBlock] at hk
    · injection h with h
      subst h
      simp [Value.ownBlock] at hk
      subst hk
      exact absurd (hgb.symm.trans hh) (by simp)
  have hfg : Fr (fun k => k = g) w1 ((w1.setCell ⟨g, 0, none⟩ (.slice Av n cv)).setCell ⟨g, 4, none⟩ (.slice D m m)).drew := by
    refine Fr.drew (Fr.setCell (Fr.setCell (Fr.refl _ _) ?_ _) ?_ _)
    · intro _; rfl
    · intro _; rfl
  refine ⟨g, .slice Av n cv, rfl, by omega, (hs2.set_ 4 (.slice D m m)).drew, ho.fr hfg hne, (hf1.trans hf2 (fun _ _ h => h)).trans hfg (fun i hi h => ?_)⟩
  omega
end Go.Proofs.YthcbjeeajoliiaaGreatDoor
