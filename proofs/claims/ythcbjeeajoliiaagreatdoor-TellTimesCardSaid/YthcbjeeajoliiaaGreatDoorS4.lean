/- The walks of crossroadlaw18's fit and light. -/
import Derived.Test.YthcbjeeajoliiaaGreatDoorS2
import Derived.Test.YthcbjeeajoliiaaGreatDoorS0
set_option linter.unusedVariables false
set_option linter.unusedSimpArgs false
namespace Go.Proofs.YthcbjeeajoliiaaGreatDoor
open Go.RowKit
open Cr (Str ActM encode encAct decodeAll norm)

theorem own_form {w : World} {base : Nat} {e : TypeId} {size n : Nat} {v : Value} {xs : List Value} (h : w.ownsRow base e size v n xs) :
    ∃ A c, v = .slice A n c ∧ n ≤ c ∧ Rd (fun k => base ≤ k ∧ k < w.heap.size) w A xs := by
  rcases h.2 with ⟨rfl, rfl⟩ | ⟨g, cap, cur, rfl, hb, hg, hnc, _⟩
  · have : xs = [] := List.eq_nil_of_length_eq_zero (by simpa using h.1)
    subst this
    exact ⟨none, 0, rfl, Nat.le_refl _, Rd.nil _ _ _⟩
  · refine ⟨some ⟨g, 0, none⟩, cap, rfl, hnc, (Rd.of_own h).mono fun k hk he => ?_⟩
    injection he with he
    subst he
    exact ⟨hb, hk⟩

/-- Are acts few? -/
def lightB (l : List ActM) : Bool := decide (l.length ≤ 60) && l.all fun a => decide (a.data.length ≤ 2000)

set_option maxRecDepth 100000 in
theorem light_any (P : Nat → Prop) (A : Option Addr) (c : Nat) (l : List ActM) (w : World) (hr : Rd P w A (actsV l)) (hn : l.length ≤ 9223372036854775807)
    (hd : ∀ a ∈ l, a.data.length ≤ 9223372036854775807) :
    Calls Tryz.prog 11 #[.slice A l.length c] w fun e w' => e = .returned (.bool (lightB l)) ∧ Fr No w w' := by
  have hn' : (l.length : Int) ≤ 9223372036854775807 := by omega
  by_cases h60 : l.length ≤ 60
  · have h60' : (l.length : Int) ≤ 60 := by omega
    go_enter Tryz.func11, Tryz.ntmps11
    go_wp2_with fail
    go_loopg [2, 10] l.length (fun gm r i wr => ∃ k : Nat, k + gm = l.length ∧ i = .int .i64 k ∧ r = .bool false ∧ (∀ a ∈ l.take k, a.data.length ≤ 2000) ∧ Fr No w wr)
    case atStart => exact ⟨0, by omega, rfl, rfl, by simp, Fr.refl _ _⟩
    case round =>
      obtain ⟨k, hk, rfl, rfl, hall, hfr⟩ := hrel
      have Hall := Lib.hid hall
      clear hall
      by_cases hlt : k < l.length
      · have hlt' : (k : Int) < (l.length : Int) := by omega
        obtain ⟨gb, off, rfl, hgb, hcell⟩ := hr.form (fun h => by have := actsV_length l; rw [h] at this; simp at this; omega)
        obtain ⟨a, ha⟩ : ∃ a, l[k]? = some a := ⟨l[k], by simp [hlt]⟩
        have hx := flat_get actV 4 (fun _ => rfl) l k a ha
        have q0 := hfr.cell (hcell (k * 4 + 0) (.int .i64 a.kind) (hx 0 (by omega))) id
        have q1 := hfr.cell (hcell (k * 4 + 1) (.int .i64 a.conn) (hx 1 (by omega))) id
        have q2 := hfr.cell (hcell (k * 4 + 2) (.int .i64 a.n) (hx 2 (by omega))) id
        have q3 := hfr.cell (hcell (k * 4 + 3) (.string ⟨a.data.toArray⟩) (hx 3 (by omega))) id
        simp only [← Nat.add_assoc, Nat.add_zero] at q0 q1 q2 q3
        have hmem := List.mem_of_getElem? ha
        have hdl := hd a hmem
        have hdl' : (a.data.length : Int) ≤ 9223372036854775807 := by omega
        by_cases hbig : 2000 < a.data.length
        · have hb' : (2000 : Int) < (a.data.length : Int) := by omega
          go_wp2_with fail
          go_ret
          refine ⟨?_, hfr.alloc _⟩
          have : lightB l = false := by
            unfold lightB
            simp only [Bool.and_eq_false_iff, List.all_eq_false]
            right
            exact ⟨a, hmem, by simp; omega⟩
          rw [this]; rfl
        · have hb' : (a.data.length : Int) ≤ 2000 := by omega
          go_wp2_with fail
          go_roundg (gk - 1)
          case measure => omega
          case rel =>
            refine ⟨k + 1, by omega, by go_num, rfl, ?_, hfr.alloc _⟩
            intro b hb
            rw [List.take_add_one, ha] at hb
            simp only [Option.toList_some, List.mem_append, List.mem_singleton] at hb
            rcases hb with hb | rfl
            · exact Hall.out b hb
            · omega
      · go_wp2_with fail
        go_ret
        obtain rfl : k = l.length := by omega
        have h := Hall.out
        rw [List.take_length] at h
        refine ⟨?_, hfr⟩
        have : lightB l = true := by
          unfold lightB
          simp only [Bool.and_eq_true, decide_eq_true_eq, List.all_eq_true]
          exact ⟨h60, h⟩
        rw [this]; rfl
  · have h60' : (60 : Int) < (l.length : Int) := by omega
    go_enter Tryz.func11, Tryz.ntmps11
    go_wp2_with fail
    go_ret
    refine ⟨?_, Fr.refl _ _⟩
    have : lightB l = false := by
      unfold lightB
      simp [h60]
    rw [this]; rfl

theorem fit_acts : decodeAll [5, 2, 1, 0, 1, 120] = [⟨5, 0, 2, []⟩, ⟨1, 0, 0, [120]⟩] := by decide +kernel

set_option maxRecDepth 100000 in
theorem fit_any (w : World) : Calls Tryz.prog 6 #[] w fun e w' => e = .returned (.bool true) ∧ Fr No w w' := by
  go_enter Tryz.func6, Tryz.ntmps6
  go_wp2_with (go_at_call 21; go_must (refine (decode_any No (some ⟨w.heap.size, 0, none⟩) 6 [5, 2, 1, 0, 1, 120] _ ?c1 (by simp) (by simp)).mono ?_))
  case c1 => exact (Rd.newAt rfl (by simp [byV])).mono (fun k hk h => hk)
  rintro e w1 ⟨v, rfl, hown, hfr⟩
  rw [fit_acts] at hown
  obtain ⟨A1, c1, rfl, hc1, hr1⟩ := own_form hown
  obtain ⟨g, off, rfl, _, hcell⟩ := hr1.form (by simp [actsV, actV])
  have q0 := hcell 0 (.int .i64 5) rfl
  have q2 := hcell 2 (.int .i64 2) rfl
  have q7 := hcell 7 (.string ⟨#[120]⟩) rfl
  simp only [Nat.add_zero] at q0
  have hfr' : Fr No w w1 := hfr.after ((Fr.refl No w).alloc _) (fun _ _ h => h)
  clear hown hfr hr1 hcell
  go_wp2_with fail
  go_ret
  exact ⟨rfl, hfr'⟩
end Go.Proofs.YthcbjeeajoliiaaGreatDoor
