/- The walk of crossroadlaw18.ScriptCounts. -/
import Derived.Test.YthcbjeeajoliiaaGreatDoorT8
import Derived.Test.YthcbjeeajoliiaaGreatDoorV7
set_option linter.unusedVariables false
set_option linter.unusedSimpArgs false
namespace Go.Proofs.YthcbjeeajoliiaaGreatDoor
open Go.RowKit
open Cr (Str ActM)

theorem and31 (a : Int) : bits .and .i64 a 31 = a % 32 := by
  have h : ∀ x : BitVec 64, (x &&& 31#64).toNat = x.toNat % 32 := fun x => by
    have := Nat.and_two_pow_sub_one_eq_mod x.toNat 5
    simpa using this
  show IntKind.i64.wrap ((BitVec.ofInt 64 a &&& 31#64).toNat : Int) = a % 32
  rw [h, BitVec.toNat_ofInt, IntKind.wrap_i64]
  omega
theorem and7 (a : Int) : bits .and .i64 a 7 = a % 8 := by
  have h : ∀ x : BitVec 64, (x &&& 7#64).toNat = x.toNat % 8 := fun x => by
    have := Nat.and_two_pow_sub_one_eq_mod x.toNat 3
    simpa using this
  show IntKind.i64.wrap ((BitVec.ofInt 64 a &&& 7#64).toNat : Int) = a % 8
  rw [h, BitVec.toNat_ofInt, IntKind.wrap_i64]
  omega

/-- The act number j of the law: one that is none. -/
def noAct (kk : Int) (j : Nat) : ActM := ⟨6 + wrap64 (kk + j) % 8, j, 0, []⟩
def noActs (kk : Int) (n : Nat) : List ActM := (List.range n).map (noAct kk)
theorem noActs_length (kk : Int) (n : Nat) : (noActs kk n).length = n := by simp [noActs]
theorem noActs_succ (kk : Int) (n : Nat) : noActs kk (n + 1) = noActs kk n ++ [noAct kk n] := by simp [noActs, List.range_succ]
theorem noActs_kind (kk : Int) (n : Nat) : ∀ a ∈ noActs kk n, 6 ≤ a.kind := by
  intro a ha
  obtain ⟨j, _, rfl⟩ := List.mem_map.1 ha
  show 6 ≤ 6 + wrap64 (kk + j) % 8
  omega

/-- The two acts behind them. -/
def tickDial : List ActM := [⟨4, 0, 0, []⟩, ⟨0, 0, 0, []⟩]

/-- The server's states: as it was made; behind the tick; behind the dial. -/
def St (g gN : Nat) (cs : Array Value) (n k : Nat) (W : World) : Prop :=
  if k ≤ n then Blk W g 39 cs ∧ Blk W gN 56 #[.slice none 0 0, .slice none 0 0]
  else if k = n + 1 then Blk W g 39 (cs.setIfInBounds 12 (.int .i64 (0 + 1))) ∧ Blk W gN 56 #[.slice none 0 0, .slice none 0 0]
  else Blk W g 39 (cs.setIfInBounds 12 (.int .i64 (0 + 1))) ∧ ∃ v u, Blk W gN 56 #[v, u] ∧ ∃ A c, v = .slice A 1 c
theorem St.no {g gN : Nat} {cs : Array Value} {n k : Nat} {W W' : World} (h : St g gN cs n k W) (hf : Fr No W W') : St g gN cs n k W' := by
  unfold St at h ⊢
  split at h
  · rename_i h1
    rw [if_pos h1]
    exact ⟨h.1.fr hf id, h.2.fr hf id⟩
  · rename_i h1
    rw [if_neg h1]
    split at h
    · rename_i h2
      rw [if_pos h2]
      exact ⟨h.1.fr hf id, h.2.fr hf id⟩
    · rename_i h2
      rw [if_neg h2]
      obtain ⟨h3, v, u, h4, h5⟩ := h
      exact ⟨h3.fr hf id, v, u, h4.fr hf id, h5⟩

theorem count_two (n : Nat) : ∀ k, k ≤ n → countOk (fun j => decide (n ≤ j)) k = 0
  | 0, _ => rfl
  | k + 1, h => by
    have := count_two n k (by omega)
    unfold countOk
    rw [this]
    simp
    omega
theorem count_all (n : Nat) : countOk (fun j => decide (n ≤ j)) (n + 2) = 2 := by
  have h := count_two n n (Nat.le_refl _)
  simp [countOk, h]

theorem run_mixed (T P : Nat → Prop) (g gN : Nat) (cs : Array Value) (kk : Int) (n : Nat) (A : Option Addr) (c : Nat) (w : World) (hn : n ≤ 1000) (hne : ¬ gN = g) (hb : Blk w g 39 cs) (hN : Blk w gN 56 #[.slice none 0 0, .slice none 0 0])
    (h0 : cs[0]? = some (.pointer (some ⟨gN, 0, none⟩))) (h10 : cs[10]? = some (.slice none 0 0)) (h12 : cs[12]? = some (.int .i64 0)) (h13 : cs[13]? = some (.int .i64 0))
    (hr : Rd P w A (actsV (noActs kk n ++ tickDial))) (hP : ∀ i, P i → ¬ (i = g ∨ i = gN) ∧ i < w.heap.size) :
    Calls Tryz.prog 8 #[.pointer (some ⟨g, 0, none⟩), .slice A (n + 2) c] w fun e w' => e = .returned (.int .i64 2) ∧ Blk w' g 39 (cs.setIfInBounds 12 (.int .i64 (0 + 1))) ∧ (∃ v u, Blk w' gN 56 #[v, u] ∧ ∃ A c, v = .slice A 1 c) ∧ Fr (fun i => i = g ∨ i = gN) w w' := by
  have hlen : (noActs kk n ++ tickDial).length = n + 2 := by rw [List.length_append, noActs_length]; rfl
  have hrun := run_rel (fun i => i = g ∨ i = gN) P (some ⟨g, 0, none⟩) A c (noActs kk n ++ tickDial) w hr (fun i hi => (hP i hi).1) (fun i hi => (hP i hi).2) (by rw [hlen]; omega) (fun j => decide (n ≤ j)) (St g gN cs n)
    (by unfold St; rw [if_pos (Nat.zero_le _)]; exact ⟨hb, hN⟩) (fun k W W' h hf => h.no hf) (fun k a W ha hst hf => by
      rcases Nat.lt_trichotomy k n with hlt | heq | hgt
      · rw [List.getElem?_append_left (by rw [noActs_length]; exact hlt)] at ha
        have hk := noActs_kind kk n a (List.mem_of_getElem? ha)
        refine (do_none W (some ⟨g, 0, none⟩) a.kind a.conn a.n ⟨a.data.toArray⟩ hk).mono ?_
        rintro e W' ⟨rfl, hf1⟩
        refine ⟨8, rfl, by simp; omega, ?_, hf1.mono (fun _ _ h => absurd h id)⟩
        have := hst.no hf1
        unfold St at this ⊢
        rw [if_pos (by omega)] at this
        rw [if_pos (by omega)]
        exact this
      · subst heq
        rw [List.getElem?_append_right (by rw [noActs_length]; omega), noActs_length, Nat.sub_self] at ha
        obtain rfl : a = ⟨4, 0, 0, []⟩ := by simpa [tickDial] using ha.symm
        unfold St at hst
        rw [if_pos (Nat.le_refl _)] at hst
        refine (do_tick W g cs 0 0 0 ⟨#[]⟩ hst.1 h10 h12 h13 (by omega) (by omega)).mono ?_
        rintro e W' ⟨rfl, hb1, hf1⟩
        refine ⟨0, rfl, by simp, ?_, hf1.mono (fun _ _ h => .inl h)⟩
        unfold St
        rw [if_neg (by omega), if_pos rfl]
        exact ⟨hb1, hst.2.fr hf1 hne⟩
      · have hk1 : k = n + 1 := by
          have := (List.getElem?_eq_some_iff.1 ha).1
          rw [hlen] at this
          omega
        subst hk1
        rw [List.getElem?_append_right (by rw [noActs_length]; omega), noActs_length] at ha
        obtain rfl : a = ⟨0, 0, 0, []⟩ := by simpa [tickDial] using ha.symm
        unfold St at hst
        rw [if_neg (by omega), if_pos rfl] at hst
        refine (do_dial W g gN (cs.setIfInBounds 12 (.int .i64 (0 + 1))) 0 0 ⟨#[]⟩ hst.1 (by rw [Array.getElem?_setIfInBounds]; simpa using h0) hne hst.2).mono ?_
        rintro e W' ⟨rfl, hv, hb1, hf1⟩
        refine ⟨0, rfl, by simp, ?_, hf1.mono (fun _ _ h => .inr h)⟩
        unfold St
        rw [if_neg (by omega), if_neg (by omega)]
        exact ⟨hb1, hv⟩)
  rw [hlen] at hrun
  refine hrun.mono ?_
  rintro e w' ⟨rfl, hst, hf⟩
  unfold St at hst
  rw [if_neg (by omega), if_neg (by omega)] at hst
  rw [count_all]
  exact ⟨rfl, hst.1, hst.2, hf⟩
end Go.Proofs.YthcbjeeajoliiaaGreatDoor
