/- The server's act: kinds that are none. -/
import Derived.Test.YthcbjeeajoliiaaGreatDoorV2
set_option linter.unusedVariables false
set_option linter.unusedSimpArgs false
namespace Go.Proofs.YthcbjeeajoliiaaGreatDoor
open Go.RowKit

set_option maxRecDepth 100000 in
theorem do_none (w : World) (p : Option Addr) (k c n : Int) (s : ByteArray) (hk : 6 ≤ k) :
    Calls Tryz.prog 12 #[.pointer p, .agg #[.int .i64 k, .int .i64 c, .int .i64 n, .string s]] w fun e w' => e = .returned (.int .i64 8) ∧ Fr No w w' := by
  have h0 : (k == 0) = false := by simp; omega
  have h1 : (k == 1) = false := by simp; omega
  have h2 : (k == 2) = false := by simp; omega
  have h3 : (k == 3) = false := by simp; omega
  have h4 : (k == 4) = false := by simp; omega
  have h5 : (k == 5) = false := by simp; omega
  go_enter Tryz.func12, Tryz.ntmps12
  go_wp2_with fail
  go_ret
  exact ⟨rfl, (Fr.refl _ _).alloc _⟩

set_option maxRecDepth 100000 in
theorem run_none (P : Nat → Prop) (p : Option Addr) (A : Option Addr) (c : Nat) (l : List Cr.ActM) (w : World) (hr : Rd P w A (actsV l)) (hn : l.length ≤ 9223372036854775807) (hk : ∀ a ∈ l, 6 ≤ a.kind) :
    Calls Tryz.prog 8 #[.pointer p, .slice A l.length c] w fun e w' => e = .returned (.int .i64 0) ∧ Fr No w w' := by
  have hn' : (l.length : Int) ≤ 9223372036854775807 := by omega
  go_enter Tryz.func8, Tryz.ntmps8
  go_wp2_with fail
  go_loopg [5, 10] l.length (fun gm r i wr => ∃ k : Nat, k + gm = l.length ∧ i = .int .i64 k ∧ r = .int .i64 0 ∧ Fr No w wr)
  case atStart => exact ⟨0, by omega, rfl, rfl, Fr.refl _ _⟩
  case round =>
    obtain ⟨k, hkk, rfl, rfl, hfr⟩ := hrel
    by_cases hlt : k < l.length
    · have hlt' : (k : Int) < (l.length : Int) := by omega
      obtain ⟨gb, off, rfl, hgb, hcell⟩ := hr.form (fun h => by have := actsV_length l; rw [h] at this; simp at this; omega)
      obtain ⟨a, ha⟩ : ∃ a, l[k]? = some a := ⟨l[k], by simp [hlt]⟩
      have hx := flat_get actV 4 (fun _ => rfl) l k a ha
      have q0 := hfr.cell (hcell (k * 4 + 0) (.int .i64 a.kind) (hx 0 (by omega))) id
      have q1 := hfr.cell (hcell (k * 4 + 1) (.int .i64 a.conn) (hx 1 (by omega))) id
      have q2 := hfr.cell (hcell (k * 4 + 2) (.int .i64 a.n) (hx 2 (by omega))) id
      have q3 := hfr.cell (hcell (k * 4 + 3) (.string ⟨a.data.toArray⟩) (hx 3 (by omega))) id
      simp only [← Nat.add_assoc, Nat.add_zero] at q0 q1 q2 q3
      have hmem := List.mem_of_getElem? ha
      have hka := hk a hmem
      have hK := Lib.hid (fun W => do_none W p a.kind a.conn a.n ⟨a.data.toArray⟩ hka)
      clear hka
      go_wp2_with (go_at_call 12; refine (hK.out _).mono ?_)
      rintro e w1 ⟨rfl, hf1⟩
      go_wp2_with fail
      go_roundg (gk - 1)
      case measure => omega
      case rel => exact ⟨k + 1, by omega, by go_num, rfl, (hfr.alloc _).trans hf1 (fun _ _ h => h)⟩
    · have hlt' : ¬ (k : Int) < (l.length : Int) := by omega
      go_wp2_with fail
      go_ret
      exact ⟨rfl, hfr⟩

theorem now_at (w : World) (g : Nat) (x : Int) (hc : w.cell? ⟨g, 12, none⟩ = some (.int .i64 x)) :
    Calls Tryz.prog 9 #[.pointer (some ⟨g, 0, none⟩)] w fun e w' => e = .returned (.int .i64 x) ∧ Fr No w w' := by
  go_enter Tryz.func9, Tryz.ntmps9
  go_wp2_with fail
  go_ret
  exact ⟨rfl, Fr.refl _ _⟩

theorem len_at (w : World) (g : Nat) (A : Option Addr) (n c : Nat) (hc : w.cell? ⟨g, 0, none⟩ = some (.slice A n c)) :
    Calls Tryz.prog 10 #[.pointer (some ⟨g, 0, none⟩)] w fun e w' => e = .returned (.int .i64 n) ∧ Fr No w w' := by
  go_enter Tryz.func10, Tryz.ntmps10
  go_wp2_with fail
  go_ret
  exact ⟨rfl, Fr.refl _ _⟩
end Go.Proofs.YthcbjeeajoliiaaGreatDoor
