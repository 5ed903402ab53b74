/- The server's makers, first part: the store and the queue. -/
import Derived.Test.YthcbjeeajoliiaaGreatDoorS4
import Derived.Test.YthcbjeeajoliiaaGreatDoorR
import Derived.Maps.Own
import Derived.Carry
import Derived.Laws.MakeOwn
import Derived.WalkSpells
import Derived.Deep.DeepCutAuto
import Derived.Deep.LoopGhost
import Derived.Maps.OwnRows
set_option linter.unusedVariables false
set_option linter.unusedSimpArgs false
namespace Go.Proofs.YthcbjeeajoliiaaGreatDoor
open Go.RowKit

/-- The eight cells of a store: four owners, four maps. -/
def shardsV : List (Int × Value) → List Value
  | [] => []
  | (o, m) :: l => .int .i64 o :: m :: shardsV l

set_option maxRecDepth 100000 in
theorem storeNew_any (w : World) :
    Calls Tryz.prog 42 #[] w fun e w' => ∃ g : Nat, ∃ m0 m1 m2 m3 : Value, e = .returned (.pointer (some ⟨g, 0, none⟩)) ∧ w.heap.size ≤ g ∧ Blk w' g 131 #[.int .i64 0, m0, .int .i64 0, m1, .int .i64 0, m2, .int .i64 0, m3] ∧ Fr No w w' := by
  have hmm := @run_makeMap Tryz.prog
  go_enter Tryz.func42, Tryz.ntmps42
  go_wp2_with fail
  obtain ⟨g, hg⟩ : ∃ g, w.heap.size = g := ⟨_, rfl⟩
  have hb0 := Blk.new w 131 #[.int .i64 0, .map none, .int .i64 0, .map none, .int .i64 0, .map none, .int .i64 0, .map none]
  have hf0 : Fr No w (w.alloc (.cells #[.int .i64 0, .map none, .int .i64 0, .map none, .int .i64 0, .map none, .int .i64 0, .map none] 131)) := (Fr.refl _ _).alloc _
  rw [hg] at hb0 ⊢
  have hge : w.heap.size ≤ g := by omega
  have Hge := Lib.hid hge
  have Hg := Lib.hid hg
  clear hge hg
  go_loopg [5] 4 (fun gm i wr => ∃ n : Nat, n + gm = 4 ∧ i = .int .i64 n ∧ Fr No w wr ∧ ∃ m0 m1 m2 m3 : Value, Blk wr g 131 #[.int .i64 0, m0, .int .i64 0, m1, .int .i64 0, m2, .int .i64 0, m3])
  case atStart => exact ⟨0, by omega, rfl, hf0, _, _, _, _, hb0⟩
  case round =>
    obtain ⟨n, hn, rfl, hfr, m0, m1, m2, m3, hb⟩ := hrel
    rcases Nat.lt_or_ge n 4 with hlt | hge
    · have hb1 := hb.alloc (.map #[] 0)
      have hc1 : (wr.alloc (.map #[] 0)).cell? ⟨g, 1, none⟩ = some m0 := hb1.cell 1
      have hc3 : (wr.alloc (.map #[] 0)).cell? ⟨g, 3, none⟩ = some m1 := hb1.cell 3
      have hc5 : (wr.alloc (.map #[] 0)).cell? ⟨g, 5, none⟩ = some m2 := hb1.cell 5
      have hc7 : (wr.alloc (.map #[] 0)).cell? ⟨g, 7, none⟩ = some m3 := hb1.cell 7
      have hz1 : (wr.alloc (.map #[] 0)).frozen? ⟨g, 1, none⟩ = false := hb1.frozen 1
      have hz3 : (wr.alloc (.map #[] 0)).frozen? ⟨g, 3, none⟩ = false := hb1.frozen 3
      have hz5 : (wr.alloc (.map #[] 0)).frozen? ⟨g, 5, none⟩ = false := hb1.frozen 5
      have hz7 : (wr.alloc (.map #[] 0)).frozen? ⟨g, 7, none⟩ = false := hb1.frozen 7
      have hs : ∀ i u, Fr No w ((wr.alloc (.map #[] 0)).setCell ⟨g, i, none⟩ u) := fun i u => (hfr.alloc _).setCell (fun h => absurd h (by have := Hge.out; simp; omega)) u
      have hbs := fun i u => hb1.set_ i u
      rcases n with _ | _ | _ | _ | n
      all_goals try omega
      all_goals go_wp2_with fail
      all_goals go_roundg (gk - 1)
      case measure => omega
      case rel => exact ⟨1, by omega, rfl, hs _ _, _, _, _, _, hbs _ _⟩
      case measure => omega
      case rel => exact ⟨2, by omega, rfl, hs _ _, _, _, _, _, hbs _ _⟩
      case measure => omega
      case rel => exact ⟨3, by omega, rfl, hs _ _, _, _, _, _, hbs _ _⟩
      case measure => omega
      case rel => exact ⟨4, by omega, rfl, hs _ _, _, _, _, _, hbs _ _⟩
    · have : n = 4 := by omega
      subst this
      go_wp2_with fail
      go_ret
      exact ⟨g, m0, m1, m2, m3, rfl, Hge.out, hb, hfr⟩
theorem run_make_any {P : Program} (t e : TypeId) (z : Value) (size bytes : Nat) (ht : P.underlying t = some (.slice e)) (hinfo : (P.info? e).map (fun i => (i.zero, i.size, i.bytes)) = some (some z, size, bytes))
    (n : Int) (h0 : 0 ≤ n) (hb : (bytes : Int) * n ≤ 281474976710656) (h63 : n ≤ 9223372036854775807) (w : World) :
    (Instr.makeSlice t (.int .i64 n) (.int .i64 n)).run P w = .ok (.slice (some ⟨w.heap.size, 0, none⟩) n.toNat n.toNat) (w.alloc (.cells (madeCells z.cells (n.toNat * size)) e)) := by
  obtain ⟨i, hi, hzz⟩ := Option.map_eq_some_iff.1 hinfo
  simp only [Prod.mk.injEq] at hzz
  obtain ⟨hz, hs, hbb⟩ := hzz
  rw [← hs]
  exact run_make (P := P) w t e i z ht hi hz .i64 .i64 n n h0 (Int.le_refl _) (by rw [hbb]; exact hb) h63

theorem infoJob : (Tryz.prog.info? 111).map (fun i => (i.zero, i.size, i.bytes)) = some (some (.agg #[(.int .i64 0), (.int .i64 0), (.string ⟨#[]⟩), (.string ⟨#[]⟩), (.slice none 0 0), (.string ⟨#[]⟩), (.bool false)]), 7, 96) := by kernel_rfl

set_option maxRecDepth 100000 in
theorem queueNew_any (w : World) (x : Int) :
    Calls Tryz.prog 25 #[.int .i64 x] w fun e w' => ∃ g r n : Nat, e = .returned (.pointer (some ⟨g, 0, none⟩)) ∧ w.heap.size ≤ g ∧ w.heap.size ≤ r ∧ (n : Int) = min (max x 1) 16 ∧ Blk w' g 98 #[.slice (some ⟨r, 0, none⟩) n n, .int .i64 0, .int .i64 0] ∧ Blk w' r 111 (madeCells #[.int .i64 0, .int .i64 0, .string ⟨#[]⟩, .string ⟨#[]⟩, .slice none 0 0, .string ⟨#[]⟩, .bool false] (n * 7)) ∧ Fr No w w' := by
  have hmk := fun (n : Int) h0 h1 h2 => run_make_any (P := Tryz.prog) 96 111 _ 7 96 Tryz.underlying96 infoJob n h0 h1 h2
  have hcase : x < 1 ∨ 1 ≤ x ∧ x ≤ 16 ∨ 1 ≤ x ∧ 16 < x := by omega
  rcases hcase with hx | ⟨hx, hx2⟩ | ⟨hx, hx2⟩
  · have hmk1 := hmk 1 (by omega) (by omega) (by omega)
    clear hmk
    go_enter Tryz.func25, Tryz.ntmps25
    go_wp2_with fail
    go_ret
    have hb := Blk.new w 111 (madeCells #[.int .i64 0, .int .i64 0, .string ⟨#[]⟩, .string ⟨#[]⟩, .slice none 0 0, .string ⟨#[]⟩, .bool false] ((1 : Int).toNat * 7))
    have hq := Blk.new (w.alloc (.cells (madeCells #[.int .i64 0, .int .i64 0, .string ⟨#[]⟩, .string ⟨#[]⟩, .slice none 0 0, .string ⟨#[]⟩, .bool false] ((1 : Int).toNat * 7)) 111)) 98 #[.slice (some ⟨w.heap.size, 0, none⟩) (1 : Int).toNat (1 : Int).toNat, .int .i64 0, .int .i64 0]
    rw [World.size_alloc] at hq
    exact ⟨w.heap.size + 1, w.heap.size, (1 : Int).toNat, rfl, by omega, by omega, by omega, hq, hb.alloc _, ((Fr.refl _ _).alloc _).alloc _⟩
  · have hmk1 := hmk x (by omega) (by omega) (by omega)
    clear hmk
    go_enter Tryz.func25, Tryz.ntmps25
    go_wp2_with fail
    go_ret
    have hb := Blk.new w 111 (madeCells #[.int .i64 0, .int .i64 0, .string ⟨#[]⟩, .string ⟨#[]⟩, .slice none 0 0, .string ⟨#[]⟩, .bool false] ((x : Int).toNat * 7))
    have hq := Blk.new (w.alloc (.cells (madeCells #[.int .i64 0, .int .i64 0, .string ⟨#[]⟩, .string ⟨#[]⟩, .slice none 0 0, .string ⟨#[]⟩, .bool false] ((x : Int).toNat * 7)) 111)) 98 #[.slice (some ⟨w.heap.size, 0, none⟩) (x : Int).toNat (x : Int).toNat, .int .i64 0, .int .i64 0]
    rw [World.size_alloc] at hq
    exact ⟨w.heap.size + 1, w.heap.size, (x : Int).toNat, rfl, by omega, by omega, by omega, hq, hb.alloc _, ((Fr.refl _ _).alloc _).alloc _⟩
  · have hmk1 := hmk 16 (by omega) (by omega) (by omega)
    clear hmk
    go_enter Tryz.func25, Tryz.ntmps25
    go_wp2_with fail
    go_ret
    have hb := Blk.new w 111 (madeCells #[.int .i64 0, .int .i64 0, .string ⟨#[]⟩, .string ⟨#[]⟩, .slice none 0 0, .string ⟨#[]⟩, .bool false] ((16 : Int).toNat * 7))
    have hq := Blk.new (w.alloc (.cells (madeCells #[.int .i64 0, .int .i64 0, .string ⟨#[]⟩, .string ⟨#[]⟩, .slice none 0 0, .string ⟨#[]⟩, .bool false] ((16 : Int).toNat * 7)) 111)) 98 #[.slice (some ⟨w.heap.size, 0, none⟩) (16 : Int).toNat (16 : Int).toNat, .int .i64 0, .int .i64 0]
    rw [World.size_alloc] at hq
    exact ⟨w.heap.size + 1, w.heap.size, (16 : Int).toNat, rfl, by omega, by omega, by omega, hq, hb.alloc _, ((Fr.refl _ _).alloc _).alloc _⟩
end Go.Proofs.YthcbjeeajoliiaaGreatDoor
