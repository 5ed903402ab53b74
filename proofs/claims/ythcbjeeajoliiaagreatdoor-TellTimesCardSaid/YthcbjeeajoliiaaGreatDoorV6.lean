/- script.Run, over any description of the states between the acts. -/
import Derived.Test.YthcbjeeajoliiaaGreatDoorV5
set_option linter.unusedVariables false
set_option linter.unusedSimpArgs false
namespace Go.Proofs.YthcbjeeajoliiaaGreatDoor
open Go.RowKit

/-- How many of the first k are well. -/
def countOk (ok : Nat → Bool) : Nat → Int
  | 0 => 0
  | k + 1 => countOk ok k + (if ok k then 1 else 0)
theorem countOk_le (ok : Nat → Bool) : ∀ k, 0 ≤ countOk ok k ∧ countOk ok k ≤ k
  | 0 => ⟨Int.le_refl _, Int.le_refl _⟩
  | k + 1 => by
    have := countOk_le ok k
    unfold countOk
    split <;> omega

set_option maxRecDepth 100000 in
theorem run_rel (T P : Nat → Prop) (p : Option Addr) (A : Option Addr) (c : Nat) (l : List Cr.ActM) (w : World) (hr : Rd P w A (actsV l)) (hPT : ∀ k, P k → ¬ T k) (hPw : ∀ k, P k → k < w.heap.size) (hn : l.length ≤ 9223372036854775807)
    (ok : Nat → Bool) (I : Nat → World → Prop) (h0 : I 0 w) (hI : ∀ k W W', I k W → Fr No W W' → I k W')
    (hDo : ∀ (k : Nat) (a : Cr.ActM) (W : World), l[k]? = some a → I k W → Fr T w W →
      Calls Tryz.prog 12 #[.pointer p, .agg #[.int .i64 a.kind, .int .i64 a.conn, .int .i64 a.n, .string ⟨a.data.toArray⟩]] W fun e W' => ∃ x : Int, e = .returned (.int .i64 x) ∧ (x == 0) = ok k ∧ I (k + 1) W' ∧ Fr T W W') :
    Calls Tryz.prog 8 #[.pointer p, .slice A l.length c] w fun e w' => e = .returned (.int .i64 (countOk ok l.length)) ∧ I l.length w' ∧ Fr T w w' := by
  have hn' : (l.length : Int) ≤ 9223372036854775807 := by omega
  have H0 := Lib.hid h0
  have HI := Lib.hid hI
  have HD := Lib.hid hDo
  have HP := Lib.hid hPT
  have HW := Lib.hid hPw
  clear h0 hI hDo hPT hPw
  go_enter Tryz.func8, Tryz.ntmps8
  go_wp2_with fail
  go_loopg [5, 10] l.length (fun gm r i wr => ∃ k : Nat, k + gm = l.length ∧ i = .int .i64 k ∧ r = .int .i64 (countOk ok k) ∧ Hid (I k wr) ∧ Fr T w wr)
  case atStart => exact ⟨0, by omega, rfl, rfl, H0, Fr.refl _ _⟩
  case round =>
    obtain ⟨k, hkk, rfl, rfl, hIk, hfr⟩ := hrel
    by_cases hlt : k < l.length
    · have hlt' : (k : Int) < (l.length : Int) := by omega
      obtain ⟨gb, off, rfl, hgb, hcell⟩ := hr.form (fun h => by have := actsV_length l; rw [h] at this; simp at this; omega)
      obtain ⟨a, ha⟩ : ∃ a, l[k]? = some a := ⟨l[k], by simp [hlt]⟩
      have hx := flat_get actV 4 (fun _ => rfl) l k a ha
      have hnT := HP.out gb hgb
      have q0 := hfr.cell (hcell (k * 4 + 0) (.int .i64 a.kind) (hx 0 (by omega))) hnT
      have q1 := hfr.cell (hcell (k * 4 + 1) (.int .i64 a.conn) (hx 1 (by omega))) hnT
      have q2 := hfr.cell (hcell (k * 4 + 2) (.int .i64 a.n) (hx 2 (by omega))) hnT
      have q3 := hfr.cell (hcell (k * 4 + 3) (.string ⟨a.data.toArray⟩) (hx 3 (by omega))) hnT
      simp only [← Nat.add_assoc, Nat.add_zero] at q0 q1 q2 q3
      have HK := Lib.hid (fun W (hW : Fr No wr W) => HD.out k a W ha (HI.out k wr W hIk.out hW) (hfr.trans hW (fun _ _ h => absurd h id)))
      have hcb := countOk_le ok k
      have Ha := Lib.hid ha
      clear ha
      obtain ⟨cn, hcn⟩ : ∃ cn, countOk ok k = cn := ⟨_, rfl⟩
      have Hcn := Lib.hid hcn
      rw [hcn] at hcb ⊢
      clear hcn
      go_wp2_with (go_at_call 12; refine (HK.out _ ?hal).mono ?_)
      case hal => exact (Fr.refl _ _).alloc _
      rintro e w1 ⟨x, rfl, hxk, hI1, hf1⟩
      have HI1 := Lib.hid hI1
      clear hI1
      have hfr1 : Fr T w w1 := (hfr.alloc _).trans hf1 (fun _ _ h => h)
      have hnext : countOk ok (k + 1) = cn + (if ok k then 1 else 0) := by rw [← Hcn.out]; rfl
      by_cases hok : ok k = true
      · rw [if_pos hok] at hnext
        rw [hok] at hxk
        have Hn := Lib.hid hnext
        clear hnext
        go_wp2_with fail
        go_roundg (gk - 1)
        case measure => omega
        case rel => exact ⟨k + 1, by omega, by go_num, by rw [Hn.out], HI1, hfr1⟩
      · rw [if_neg hok] at hnext
        have hxk' : (x == 0) = false := by rw [hxk]; simpa using hok
        have Hn := Lib.hid hnext
        clear hnext hxk
        go_wp2_with fail
        go_roundg (gk - 1)
        case measure => omega
        case rel => exact ⟨k + 1, by omega, by go_num, by rw [Hn.out, Int.add_zero], HI1, hfr1⟩
    · have hlt' : ¬ (k : Int) < (l.length : Int) := by omega
      go_wp2_with fail
      go_ret
      obtain rfl : k = l.length := by omega
      exact ⟨rfl, hIk.out, hfr⟩
end Go.Proofs.YthcbjeeajoliiaaGreatDoor
