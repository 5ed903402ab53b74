/- The net's first dial; the server's act Dial. -/
import Derived.Test.YthcbjeeajoliiaaGreatDoorT4
import Derived.Test.YthcbjeeajoliiaaGreatDoorV6
set_option linter.unusedVariables false
set_option linter.unusedSimpArgs false
namespace Go.Proofs.YthcbjeeajoliiaaGreatDoor
open Go.RowKit

set_option maxRecDepth 100000 in
theorem dial_empty (w : World) (g : Nat) (hb : Blk w g 56 #[.slice none 0 0, .slice none 0 0]) :
    Calls Tryz.prog 26 #[.pointer (some ⟨g, 0, none⟩)] w fun e w' => ∃ v u, e = .returned (.int .i64 0) ∧ Blk w' g 56 #[v, u] ∧ (∃ A c, v = .slice A 1 c) ∧ Fr (fun i => i = g) w w' := by
  have hgl := hb.lt
  have c0 : w.cell? ⟨g, 0, none⟩ = some (.slice none 0 0) := hb.cell 0
  have hf0 : Fr No w (w.alloc (.cells #[.slice none 0 0, .int .i64 0, .bool false, .bool false, .bool false, .bool false, .string ⟨#[]⟩] 70)) := (Fr.refl _ _).alloc _
  go_enter Tryz.func26, Tryz.ntmps26
  go_wp2_with (at_builtin; go_must (refine wpList_app (Pr := fun _ => True) _ rfl (.tmp 7) (.tmp 10) _ rfl w.heap.size 66 _ 1 8 Tryz.underlying53 infoConnP rfl (by decide) (.slice none 0 0) 0 [] rfl ?a0 _ 1 1 [.pointer (some ⟨w.heap.size, 0, none⟩)] rfl rfl ?a2 ?a3 ?a4 (by decide) ?a5 ?_))
  case a0 => exact ⟨rfl, .inl ⟨rfl, rfl⟩⟩
  case a2 => exact Rd.mono (Rd.newAt (by simp) rfl) (fun _ _ _ => trivial)
  case a3 => intro u hu; simp at hu; subst hu; rfl
  case a4 => omega
  case a5 => simp; omega
  intro v1 w1 hown1 hf1' hob
  have hf1 : Fr No w w1 := (hf0.alloc _).trans (hf1'.mono (S' := No) (fun i _ h => by simp [Value.ownBlock] at h)) (fun _ _ h => h)
  obtain ⟨A1, c1, rfl, hc1, _⟩ := own_form hown1
  have hb1 := hb.fr hf1 id
  have r0 : w1.cell? ⟨g, 0, none⟩ = some (.slice none 0 0) := hb1.cell 0
  have z0 : w1.frozen? ⟨g, 0, none⟩ = false := hb1.frozen 0
  have hb2 := hb1.set_ 0 (.slice A1 1 c1)
  have hf2 : Fr (fun i => i = g) w1 (w1.setCell ⟨g, 0, none⟩ (.slice A1 1 c1)) := by
    refine Fr.setCell (Fr.refl _ _) ?_ _
    intro _; rfl
  have r1 : (w1.setCell ⟨g, 0, none⟩ (.slice A1 1 c1)).drew.cell? ⟨g, 0, none⟩ = some (.slice A1 1 c1) := hb2.cell 0
  have r2 : (w1.setCell ⟨g, 0, none⟩ (.slice A1 1 c1)).drew.cell? ⟨g, 1, none⟩ = some (.slice none 0 0) := hb2.cell 1
  go_wp2_with fail
  obtain ⟨W2, hW2⟩ : ∃ W2, w1.setCell ⟨g, 0, none⟩ (.slice A1 1 c1) = W2 := ⟨_, rfl⟩
  rw [hW2] at hb2 hf2 r1 r2 ⊢
  clear hW2 r0 z0
  have hw0 : IntKind.i64.wrap 0 = 0 := by decide
  refine wp_region_z (Fr No) (.read 0 (.read 1 (.read 2 (.read 3 (.read 4 (.read 5 (.read 6 (.read 7 (.read 8 (.read 9 (.read 10 (.eff 11 (.eff 12 (.pure 13 (.read 14 (.last 15)))))))))))))))) (by rfl) (PlanRel.refl _) (PlanRel.trans _) (by intro c a d v w h; cases d <;> exact h) (by kernel_rfl) (fun s hs => ?_) (by kernel_rfl)
  simp only [zOf, List.getElem?_toArray, List.getElem?_cons_succ, List.getElem?_cons_zero, Option.some.injEq] at hs
  subst hs
  refine z_reads ?_ (by rfl) (fun w' hR => ?_) ?_
  rotate_left
  · (go_simp; try with_reducible rfl)
  simp only [Act.put, List.setIfInBounds_toArray, List.set_cons_zero, List.set_cons_succ]
  refine z_reads ?_ (by rfl) (fun w' hR => ?_) ?_
  rotate_left
  · (go_simp; try with_reducible rfl)
  simp only [Act.put, List.setIfInBounds_toArray, List.set_cons_zero, List.set_cons_succ]
  refine z_reads ?_ (by rfl) (fun w' hR => ?_) ?_
  rotate_left
  · (go_simp; try with_reducible rfl)
  simp only [Act.put, List.setIfInBounds_toArray, List.set_cons_zero, List.set_cons_succ]
  refine z_reads ?_ (by rfl) (fun w' hR => ?_) ?_
  rotate_left
  · (go_simp; try with_reducible rfl)
  simp only [Act.put, List.setIfInBounds_toArray, List.set_cons_zero, List.set_cons_succ]
  refine z_reads ?_ (by rfl) (fun w' hR => ?_) ?_
  rotate_left
  · have hk := hR.cell r2 id
    (go_simp; try with_reducible rfl)
  simp only [Act.put, List.setIfInBounds_toArray, List.set_cons_zero, List.set_cons_succ]
  refine z_reads ?_ (by rfl) (fun w' hR => ?_) ?_
  rotate_left
  · (go_simp; try with_reducible rfl)
  simp only [Act.put, List.setIfInBounds_toArray, List.set_cons_zero, List.set_cons_succ]
  refine z_reads ?_ (by rfl) (fun w' hR => ?_) ?_
  rotate_left
  · (go_simp; try with_reducible rfl)
  simp only [Act.put, List.setIfInBounds_toArray, List.set_cons_zero, List.set_cons_succ]
  refine z_reads ?_ (by rfl) (fun w' hR => ?_) ?_
  rotate_left
  · (go_simp; try with_reducible rfl)
  simp only [Act.put, List.setIfInBounds_toArray, List.set_cons_zero, List.set_cons_succ]
  refine z_reads ?_ (by rfl) (fun w' hR => ?_) ?_
  rotate_left
  · have hk := hR.cell r1 id
    (go_simp; try with_reducible rfl)
  simp only [Act.put, List.setIfInBounds_toArray, List.set_cons_zero, List.set_cons_succ]
  refine z_reads ?_ (by rfl) (fun w' hR => ?_) ?_
  rotate_left
  · (go_simp; try with_reducible rfl)
  simp only [Act.put, List.setIfInBounds_toArray, List.set_cons_zero, List.set_cons_succ]
  refine z_reads ?_ (by rfl) (fun w' hR => ?_) ?_
  rotate_left
  · (go_simp; try with_reducible rfl)
  simp only [Act.put, List.setIfInBounds_toArray, List.set_cons_zero, List.set_cons_succ]
  refine z_does (by rfl) (fun K hK => ?_)
  go_simp
  refine hK _ _ ?hq ?_
  case hq => exact (Fr.refl _ _).alloc _
  try simp only [Act.put, List.setIfInBounds_toArray, List.set_cons_zero, List.set_cons_succ]
  refine z_does (by rfl) (fun K hK => ?_)
  refine op_app (Pr := fun _ => True) _ (.tmp 18) (.tmp 25) _ rfl 0 3 _ 1 8 Tryz.underlying54 infoInt rfl (by decide) (.slice none 0 0) 0 [] rfl ?a0 _ 1 1 [.int .i64 0] rfl rfl ?b2 ?b3 ?b4 (by decide) ?b5 ?_
  case a0 => exact ⟨rfl, .inl ⟨rfl, rfl⟩⟩
  case b2 => exact Rd.mono ((Rd.newAt (w := W2) (t := 3) (cs := #[.int .i64 0]) rfl rfl).fr (Fr.refl No _).drew (fun _ _ h => h)) (fun _ _ _ => trivial)
  case b3 => intro u hu; simp at hu; subst hu; rfl
  case b4 => omega
  case b5 => omega
  intro v3 w3 hown3 hf3' hob3
  obtain ⟨A3, c3, rfl, hc3, _⟩ := own_form hown3
  have hf3 : Fr No ((W2.alloc (.cells #[.int .i64 0] 3)).drew) w3 := hf3'.mono (fun i _ h => by simp [Value.ownBlock] at h)
  refine hK _ _ hf3 ?_
  have hf23 : Fr No W2 w3 := (((Fr.refl _ _).alloc _).drew).trans hf3 (fun _ _ h => h)
  have hb3 := hb2.fr hf23 id
  have q0 : w3.cell? ⟨g, 1, none⟩ = some (.slice none 0 0) := hb3.cell 1
  have q1 : w3.frozen? ⟨g, 1, none⟩ = false := hb3.frozen 1
  have hb4 := hb3.set_ 1 (.slice A3 1 c3)
  try simp only [Act.put, List.setIfInBounds_toArray, List.set_cons_zero, List.set_cons_succ]
  refine z_pure ?_ (by rfl) (fun w' => ?_) ?_
  rotate_left
  · (go_simp; try with_reducible rfl)
  simp only [Act.put, List.setIfInBounds_toArray, List.set_cons_zero, List.set_cons_succ]
  refine z_reads ?_ (by rfl) (fun w' hR => ?_) ?_
  rotate_left
  · (go_simp; try with_reducible rfl)
  simp only [Act.put, List.setIfInBounds_toArray, List.set_cons_zero, List.set_cons_succ]
  refine z_last (by rfl) (fun K hK => ?_)
  go_simp
  refine hK _ _ ?_
  have r5 : (w3.setCell ⟨g, 1, none⟩ (.slice A3 1 c3)).cell? ⟨g, 0, none⟩ = some (.slice A1 1 c1) := hb4.cell 0
  go_wp2_with fail
  go_ret
  have hf4 : Fr (fun i => i = g) w3 (w3.setCell ⟨g, 1, none⟩ (.slice A3 1 c3)) := by
    refine Fr.setCell (Fr.refl _ _) ?_ _
    intro _; rfl
  exact ⟨_, _, rfl, hb4, ⟨_, _, rfl⟩, ((hf1.mono (S' := fun i => i = g) (fun _ _ h => absurd h id)).trans hf2 (fun i hi h => h)).trans ((hf23.mono (S' := fun i => i = g) (fun _ _ h => absurd h id)).trans hf4 (fun _ _ h => h)) (fun _ _ h => h)⟩

/-- The server's act Dial, where the net is empty. -/
theorem do_dial (w : World) (g gN : Nat) (cs : Array Value) (c n : Int) (s : ByteArray) (hb : Blk w g 39 cs) (h0 : cs[0]? = some (.pointer (some ⟨gN, 0, none⟩))) (hne : ¬ gN = g) (hN : Blk w gN 56 #[.slice none 0 0, .slice none 0 0]) :
    Calls Tryz.prog 12 #[.pointer (some ⟨g, 0, none⟩), .agg #[.int .i64 0, .int .i64 c, .int .i64 n, .string s]] w fun e w' => e = .returned (.int .i64 0) ∧ (∃ v u, Blk w' gN 56 #[v, u] ∧ (∃ A c, v = .slice A 1 c)) ∧ Blk w' g 39 cs ∧ Fr (fun i => i = gN) w w' := by
  have q0 : w.cell? ⟨g, 0, none⟩ = some (.pointer (some ⟨gN, 0, none⟩)) := (hb.cell 0).trans h0
  have hf0 : Fr No w (w.alloc (.cells #[.int .i64 0, .int .i64 c, .int .i64 n, .string s] 29)) := (Fr.refl _ _).alloc _
  have q1 := hf0.cell q0 id
  have HD := Lib.hid (dial_empty _ gN (hN.fr hf0 id))
  go_enter Tryz.func12, Tryz.ntmps12
  go_wp2_with (go_at_call 26; refine HD.out.mono (Hid.out ?_))
  refine Lib.hid ?_
  rintro e w1 ⟨v, u, rfl, hb1, hv, hf1⟩
  go_wp2_with fail
  go_ret
  have hf : Fr (fun i => i = gN) w w1 := (hf0.mono (S' := fun i => i = gN) (fun _ _ h => absurd h id)).trans hf1 (fun _ _ h => h)
  exact ⟨rfl, ⟨v, u, hb1, hv⟩, hb.fr hf (fun h => hne h.symm), hf⟩
end Go.Proofs.YthcbjeeajoliiaaGreatDoor
