/- The server's settling, where it has no connection and runs. -/
import Derived.Test.YthcbjeeajoliiaaGreatDoorV3
set_option linter.unusedVariables false
set_option linter.unusedSimpArgs false
namespace Go.Proofs.YthcbjeeajoliiaaGreatDoor
open Go.RowKit

set_option maxRecDepth 100000 in
theorem settle_none (w : World) (g : Nat) (cs : Array Value) (hb : Blk w g 39 cs) (h10 : cs[10]? = some (.slice none 0 0)) (h13 : cs[13]? = some (.int .i64 0)) :
    Calls Tryz.prog 33 #[.pointer (some ⟨g, 0, none⟩)] w fun e w' => e = .returned (.tuple #[]) ∧ Blk w' g 39 cs ∧ Fr (fun k => k = g) w w' := by
  have q1 : w.cell? ⟨g, 10, none⟩ = some (.slice none 0 0) := (hb.cell 10).trans h10
  have q2 : w.frozen? ⟨g, 10, none⟩ = false := hb.frozen 10
  have hs := hb.set_ 10 (.slice none 0 0)
  have hcs : cs.setIfInBounds 10 (.slice none 0 0) = cs := by
    apply Array.ext_getElem?
    intro i
    rw [Array.getElem?_setIfInBounds]
    by_cases hi : 10 = i
    · subst hi
      rw [h10]
      have : 10 < cs.size := (Array.getElem?_eq_some_iff.1 h10).1
      simp [this]
    · simp [hi]
  rw [hcs] at hs
  have q3 : (w.setCell ⟨g, 10, none⟩ (.slice none 0 0)).cell? ⟨g, 13, none⟩ = some (.int .i64 0) := (hs.cell 13).trans h13
  go_enter Tryz.func33, Tryz.ntmps33
  go_wp2_with fail
  go_loopg [2, 12] 1 (fun gm r i wr => r = .slice none 0 0 ∧ i = .int .i64 0 ∧ wr = w)
  case atStart => exact ⟨rfl, rfl, rfl⟩
  case round =>
    obtain ⟨rfl, rfl, rfl⟩ := hrel
    go_wp2_with fail
    refine bodyPost_ret (results_none rfl _ _ _) rfl ?_
    refine ⟨rfl, hs, Fr.setCell (Fr.refl _ _) ?_ _⟩
    intro _
    rfl

set_option maxRecDepth 100000 in
theorem tick_none (w : World) (g : Nat) (cs : Array Value) (x : Int) (hb : Blk w g 39 cs) (h10 : cs[10]? = some (.slice none 0 0)) (h12 : cs[12]? = some (.int .i64 x)) (h13 : cs[13]? = some (.int .i64 0)) (hx : 0 ≤ x) (hx2 : x ≤ 1000000) :
    Calls Tryz.prog 31 #[.pointer (some ⟨g, 0, none⟩)] w fun e w' => e = .returned (.tuple #[]) ∧ Blk w' g 39 (cs.setIfInBounds 12 (.int .i64 (x + 1))) ∧ Fr (fun k => k = g) w w' := by
  have q0 : w.cell? ⟨g, 12, none⟩ = some (.int .i64 x) := (hb.cell 12).trans h12
  have q1 : w.frozen? ⟨g, 12, none⟩ = false := hb.frozen 12
  have hs := hb.set_ 12 (.int .i64 (x + 1))
  have g10 : (cs.setIfInBounds 12 (.int .i64 (x + 1)))[10]? = some (.slice none 0 0) := by rw [Array.getElem?_setIfInBounds]; simpa using h10
  have g13 : (cs.setIfInBounds 12 (.int .i64 (x + 1)))[13]? = some (.int .i64 0) := by rw [Array.getElem?_setIfInBounds]; simpa using h13
  have q3 : (w.setCell ⟨g, 12, none⟩ (.int .i64 (x + 1))).cell? ⟨g, 10, none⟩ = some (.slice none 0 0) := (hs.cell 10).trans g10
  have HS := Lib.hid (fun W hW => settle_none W g _ hW g10 g13)
  go_enter Tryz.func31, Tryz.ntmps31
  go_wp2_with fail
  obtain ⟨W, hW⟩ : ∃ W, w.setCell ⟨g, 12, none⟩ (.int .i64 (x + 1)) = W := ⟨_, rfl⟩
  have hf0 : Fr (fun k => k = g) w W := by
    rw [← hW]
    refine Fr.setCell (Fr.refl _ _) ?_ _
    intro _
    rfl
  rw [hW] at hs q3 ⊢
  clear hW
  go_loopg [18] 1 (fun gm i wr => i = .int .i64 0 ∧ wr = W)
  case atStart => exact ⟨rfl, rfl⟩
  case round =>
    obtain ⟨rfl, rfl⟩ := hrel
    go_wp2_with (go_at_call 33; refine (HS.out _ hs).mono ?_)
    rintro e w1 ⟨rfl, hb1, hf1⟩
    go_wp2_with fail
    go_end0
    exact ⟨rfl, hb1, hf0.trans hf1 (fun _ _ h => h)⟩

set_option maxRecDepth 100000 in
theorem do_tick (w : World) (g : Nat) (cs : Array Value) (x c n : Int) (s : ByteArray) (hb : Blk w g 39 cs) (h10 : cs[10]? = some (.slice none 0 0)) (h12 : cs[12]? = some (.int .i64 x)) (h13 : cs[13]? = some (.int .i64 0)) (hx : 0 ≤ x) (hx2 : x ≤ 1000000) :
    Calls Tryz.prog 12 #[.pointer (some ⟨g, 0, none⟩), .agg #[.int .i64 4, .int .i64 c, .int .i64 n, .string s]] w fun e w' => e = .returned (.int .i64 0) ∧ Blk w' g 39 (cs.setIfInBounds 12 (.int .i64 (x + 1))) ∧ Fr (fun k => k = g) w w' := by
  have HT := Lib.hid (tick_none (w.alloc (.cells #[.int .i64 4, .int .i64 c, .int .i64 n, .string s] 29)) g cs x (hb.alloc _) h10 h12 h13 hx hx2)
  go_enter Tryz.func12, Tryz.ntmps12
  go_wp2_with (go_at_call 31; refine HT.out.mono ?_)
  rintro e w1 ⟨rfl, hb1, hf1⟩
  go_wp2_with fail
  go_ret
  exact ⟨rfl, hb1, ((Fr.refl _ _).alloc _).trans hf1 (fun _ _ h => h)⟩
end Go.Proofs.YthcbjeeajoliiaaGreatDoor
