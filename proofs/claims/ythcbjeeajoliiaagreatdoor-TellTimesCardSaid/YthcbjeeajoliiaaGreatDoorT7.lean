/- holder: set, New. -/
import Derived.Test.YthcbjeeajoliiaaGreatDoorT6
set_option linter.unusedVariables false
set_option linter.unusedSimpArgs false
namespace Go.Proofs.YthcbjeeajoliiaaGreatDoor
open Go.RowKit
open Cr (Str Rou)

/-- The routes that stand, out of those that were given. -/
def chosen (l : List Rou) : List Rou := if Cr.checkRoutes l = 0 then l else []

set_option maxRecDepth 100000 in
set_option maxHeartbeats 4000000 in
theorem set_any (Pl : Nat → Prop) (w : World) (hh : Hands w) (gh : Nat) (pt : Option Addr) (ver : Int) (D0 : Option Addr) (n0 c0 : Nat) (A : Option Addr) (c : Nat) (l : List Rou)
    (hb : Blk w gh 133 #[.pointer pt, .int .i64 ver, .slice D0 n0 c0]) (hv0 : 0 ≤ ver) (hv1 : ver ≤ 1000000000) (hr : Rd Pl w A (rousV l)) (hl : l.length ≤ 1000) (hs : ∀ r ∈ l, rouSmall r) :
    Calls Tryz.prog 64 #[.pointer (some ⟨gh, 0, none⟩), .slice A l.length c] w fun e w' => ∃ gT root v, e = .returned (.tuple #[]) ∧ w.heap.size ≤ gT ∧
      Blk w' gh 133 #[.pointer (some ⟨gT, 0, none⟩), .int .i64 (ver + 1), v] ∧ Blk w' gT 201 #[.pointer root, .int .i64 (chosen l).length] ∧
      NodeAt (fun i => w.heap.size ≤ i ∧ i ≠ gT) ((chosen l).length + 1) w' root (Cr.withRoutes none (chosen l)) ∧ w'.ownsRow w.heap.size 137 3 v (chosen l).length (rousV (chosen l)) ∧ Fr (fun i => i = gh) w w' := by
  have HC := Lib.hid (check_any Pl w hh A c l hr (by omega) hs)
  have hgl := hb.lt
  have hl' : (l.length : Int) ≤ 1000 := by omega
  have HS := Lib.hid hs
  by_cases hck : Cr.checkRoutes l = 0
  · have hsel : chosen l = l := by unfold chosen; rw [if_pos hck]
    rw [hsel]
    rw [hck] at HC
    clear hck hsel hs
    go_enter Tryz.func64, Tryz.ntmps64
    go_wp2_with (go_at_call 66; refine HC.out.mono (Hid.out ?_))
    refine Lib.hid ?_
    rintro e w1 ⟨rfl, hf1⟩
    have hb1 := hb.fr hf1 id
    have h1 : w1.drew.cell? ⟨gh, 1, none⟩ = some (.int .i64 ver) := hb1.cell 1
    have HWi := Lib.hid (with_nil Pl w1.drew A c l ((hr.fr hf1 (fun _ _ h => h)).fr (Fr.refl No _).drew (fun _ _ h => h)) hl HS.out)
    go_wp2_with fail
    have hw : IntKind.i64.wrap (ver + 1) = ver + 1 := IntWalk.i64_in _ (by omega)
    refine wp_region_z (Fr No) (.read 0 (.read 1 (.read 2 (.read 4 (.read 5 (.read 6 (.read 7 (.read 8 (.read 9 (.read 10 (.eff 3 (.eff 11 (.read 12 (.pure 13 (.read 14 (.last 15)))))))))))))))) (by rfl) (PlanRel.refl _) (PlanRel.trans _) (by intro c a d v w h; cases d <;> exact h) (by kernel_rfl) (fun s hs => ?_) (by kernel_rfl)
    simp only [zOf, List.getElem?_toArray, List.getElem?_cons_succ, List.getElem?_cons_zero, Option.some.injEq] at hs
    subst hs
    refine z_reads ?_ (by rfl) (fun w' hR => ?_) ?_
    rotate_left
    · (go_simp; try with_reducible rfl)
    simp only [Act.put, List.setIfInBounds_toArray, List.set_cons_zero, List.set_cons_succ]
    refine z_reads ?_ (by rfl) (fun w' hR => ?_) ?_
    rotate_left
    · (go_simp; try with_reducible rfl)
    simp only [Act.put, List.setIfInBounds_toArray, List.set_cons_zero, List.set_cons_succ]
    refine z_reads ?_ (by rfl) (fun w' hR => ?_) ?_
    rotate_left
    · (go_simp; try with_reducible rfl)
    simp only [Act.put, List.setIfInBounds_toArray, List.set_cons_zero, List.set_cons_succ]
    refine z_reads ?_ (by rfl) (fun w' hR => ?_) ?_
    rotate_left
    · (go_simp; try with_reducible rfl)
    simp only [Act.put, List.setIfInBounds_toArray, List.set_cons_zero, List.set_cons_succ]
    refine z_reads ?_ (by rfl) (fun w' hR => ?_) ?_
    rotate_left
    · (go_simp; try with_reducible rfl)
    simp only [Act.put, List.setIfInBounds_toArray, List.set_cons_zero, List.set_cons_succ]
    refine z_reads ?_ (by rfl) (fun w' hR => ?_) ?_
    rotate_left
    · (go_simp; try with_reducible rfl)
    simp only [Act.put, List.setIfInBounds_toArray, List.set_cons_zero, List.set_cons_succ]
    refine z_reads ?_ (by rfl) (fun w' hR => ?_) ?_
    rotate_left
    · (go_simp; try with_reducible rfl)
    simp only [Act.put, List.setIfInBounds_toArray, List.set_cons_zero, List.set_cons_succ]
    refine z_reads ?_ (by rfl) (fun w' hR => ?_) ?_
    rotate_left
    · have hk1 := hR.cell h1 id
      (go_simp; try with_reducible rfl)
    simp only [Act.put, List.setIfInBounds_toArray, List.set_cons_zero, List.set_cons_succ]
    refine z_reads ?_ (by rfl) (fun w' hR => ?_) ?_
    rotate_left
    · (go_simp; try with_reducible rfl)
    simp only [Act.put, List.setIfInBounds_toArray, List.set_cons_zero, List.set_cons_succ]
    refine z_reads ?_ (by rfl) (fun w' hR => ?_) ?_
    rotate_left
    · (go_simp; try with_reducible rfl)
    simp only [Act.put, List.setIfInBounds_toArray, List.set_cons_zero, List.set_cons_succ]
    refine z_does (by rfl) (fun K hK => ?_)
    go_simp
    refine HWi.out.mono ?_
    rintro e w2 ⟨gT, root, rfl, hgT, hbT, hn, hf2⟩
    refine hK _ _ hf2 ?_
    try simp only [Act.put, List.setIfInBounds_toArray, List.set_cons_zero, List.set_cons_succ]
    refine z_does (by rfl) (fun K hK => ?_)
    refine op_app (Pr := Pl) _ (.const (.slice none 0 0)) (.tmp 18) _ rfl w.heap.size 137 _ 3 48 Tryz.underlying58 infoRoute rfl (by decide) (.slice none 0 0) 0 [] rfl ?a0 A l.length c (rousV l) rfl ?a1 ?a2 ?a3 ?a4 (by decide) ?a5 ?_
    case a0 => exact ⟨rfl, .inl ⟨rfl, rfl⟩⟩
    case a1 => exact rousV_length _
    case a2 => exact ((hr.fr hf1 (fun _ _ h => h)).fr (Fr.refl No _).drew (fun _ _ h => h)).fr hf2 (fun _ _ h => h)
    case a3 => exact rousV_one _
    case a4 => omega
    case a5 => have := hf1.size; have := hf2.size; simp at this; omega
    intro v3 w3 hown3 hf3' hob
    have hf3 : Fr No w2 w3 := hf3'.mono (fun i _ h => by simp [Value.ownBlock] at h)
    simp only [Nat.zero_add, List.nil_append] at hown3
    obtain ⟨A3, c3, rfl, hc3, _⟩ := own_form hown3
    refine hK _ _ hf3 ?_
    have hf13 : Fr No w1 w3 := ((Fr.refl _ _).drew.trans hf2 (fun _ _ h => h)).trans hf3 (fun _ _ h => h)
    have hb3 := hb1.fr hf13 id
    have r0 : w3.cell? ⟨gh, 0, none⟩ = some (.pointer pt) := hb3.cell 0
    have z0 : w3.frozen? ⟨gh, 0, none⟩ = false := hb3.frozen 0
    have hb4 := hb3.set_ 0 (.pointer (some ⟨gT, 0, none⟩))
    have r1 : w3.cell? ⟨gh, 1, none⟩ = some (.int .i64 ver) := hb3.cell 1
    have z1 : w3.frozen? ⟨gh, 1, none⟩ = false := hb3.frozen 1
    have hb5 := hb4.set_ 1 (.int .i64 (ver + 1))
    have r2 : w3.cell? ⟨gh, 2, none⟩ = some (.slice D0 n0 c0) := hb3.cell 2
    have z2 : w3.frozen? ⟨gh, 2, none⟩ = false := hb3.frozen 2
    have hb6 := hb5.set_ 2 (.slice A3 l.length c3)
    try simp only [Act.put, List.setIfInBounds_toArray, List.set_cons_zero, List.set_cons_succ]
    refine z_reads ?_ (by rfl) (fun w' hR => ?_) ?_
    rotate_left
    · (go_simp; try with_reducible rfl)
    simp only [Act.put, List.setIfInBounds_toArray, List.set_cons_zero, List.set_cons_succ]
    refine z_pure ?_ (by rfl) (fun w' => ?_) ?_
    rotate_left
    · (go_simp; try with_reducible rfl)
    simp only [Act.put, List.setIfInBounds_toArray, List.set_cons_zero, List.set_cons_succ]
    refine z_reads ?_ (by rfl) (fun w' hR => ?_) ?_
    rotate_left
    · (go_simp; try with_reducible rfl)
    simp only [Act.put, List.setIfInBounds_toArray, List.set_cons_zero, List.set_cons_succ]
    refine z_last (by rfl) (fun K hK => ?_)
    go_simp
    refine hK _ _ ?_
    go_end0
    have hfs : Fr (fun i => i = gh) w3 (((w3.setCell ⟨gh, 0, none⟩ (.pointer (some ⟨gT, 0, none⟩))).setCell ⟨gh, 1, none⟩ (.int .i64 (ver + 1))).setCell ⟨gh, 2, none⟩ (.slice A3 l.length c3)) := by
      refine Fr.setCell (Fr.setCell (Fr.setCell (Fr.refl _ _) ?_ _) ?_ _) ?_ _
      · intro _; rfl
      · intro _; rfl
      · intro _; rfl
    have hgh : gh < w.heap.size := hgl
    have hs1 := hf1.size
    have hgT' : w1.heap.size ≤ gT := hgT
    have hne : ¬ gT = gh := by omega
    have hrne : ∀ i, (Value.slice A3 l.length c3).ownBlock = some i → ¬ i = gh := fun i hi h => by have := (hown3.lt i hi).1; omega
    refine ⟨gT, root, .slice A3 l.length c3, rfl, by omega, by simpa using hb6, (hbT.fr hf3 id).fr hfs hne, ?_, hown3.fr hfs hrne, (hf1.trans hf13 (fun _ _ h => h)).mono (fun _ _ h => absurd h id) |>.trans hfs (fun _ _ h => h)⟩
    exact ((hn.no hf3).over hfs (fun i hi h => by have : w1.heap.size ≤ i := hi.1; omega) (Nat.le_refl _) (fun i hi => ⟨by have : w1.heap.size ≤ i := hi.1; omega, hi.2⟩))
  · have hsel : chosen l = [] := by unfold chosen; rw [if_neg hck]
    rw [hsel]
    have hck' : (Cr.checkRoutes l == 0) = false := by simpa using hck
    generalize Cr.checkRoutes l = ce at HC hck'
    clear hck hsel hs
    go_enter Tryz.func64, Tryz.ntmps64
    go_wp2_with (go_at_call 66; refine HC.out.mono (Hid.out ?_))
    refine Lib.hid ?_
    rintro e w1 ⟨rfl, hf1⟩
    have hb1 := hb.fr hf1 id
    have h1 : w1.drew.cell? ⟨gh, 1, none⟩ = some (.int .i64 ver) := hb1.cell 1
    have HWi := Lib.hid (with_nil Pl w1.drew none 0 [] (Rd.nil _ _ _) (by simp) (by simp))
    go_wp2_with fail
    have hw : IntKind.i64.wrap (ver + 1) = ver + 1 := IntWalk.i64_in _ (by omega)
    refine wp_region_z (Fr No) (.read 0 (.read 1 (.read 2 (.read 4 (.read 5 (.read 6 (.read 7 (.read 8 (.read 9 (.read 10 (.eff 3 (.eff 11 (.read 12 (.pure 13 (.read 14 (.last 15)))))))))))))))) (by rfl) (PlanRel.refl _) (PlanRel.trans _) (by intro c a d v w h; cases d <;> exact h) (by kernel_rfl) (fun s hs => ?_) (by kernel_rfl)
    simp only [zOf, List.getElem?_toArray, List.getElem?_cons_succ, List.getElem?_cons_zero, Option.some.injEq] at hs
    subst hs
    refine z_reads ?_ (by rfl) (fun w' hR => ?_) ?_
    rotate_left
    · (go_simp; try with_reducible rfl)
    simp only [Act.put, List.setIfInBounds_toArray, List.set_cons_zero, List.set_cons_succ]
    refine z_reads ?_ (by rfl) (fun w' hR => ?_) ?_
    rotate_left
    · (go_simp; try with_reducible rfl)
    simp only [Act.put, List.setIfInBounds_toArray, List.set_cons_zero, List.set_cons_succ]
    refine z_reads ?_ (by rfl) (fun w' hR => ?_) ?_
    rotate_left
    · (go_simp; try with_reducible rfl)
    simp only [Act.put, List.setIfInBounds_toArray, List.set_cons_zero, List.set_cons_succ]
    refine z_reads ?_ (by rfl) (fun w' hR => ?_) ?_
    rotate_left
    · (go_simp; try with_reducible rfl)
    simp only [Act.put, List.setIfInBounds_toArray, List.set_cons_zero, List.set_cons_succ]
    refine z_reads ?_ (by rfl) (fun w' hR => ?_) ?_
    rotate_left
    · (go_simp; try with_reducible rfl)
    simp only [Act.put, List.setIfInBounds_toArray, List.set_cons_zero, List.set_cons_succ]
    refine z_reads ?_ (by rfl) (fun w' hR => ?_) ?_
    rotate_left
    · (go_simp; try with_reducible rfl)
    simp only [Act.put, List.setIfInBounds_toArray, List.set_cons_zero, List.set_cons_succ]
    refine z_reads ?_ (by rfl) (fun w' hR => ?_) ?_
    rotate_left
    · (go_simp; try with_reducible rfl)
    simp only [Act.put, List.setIfInBounds_toArray, List.set_cons_zero, List.set_cons_succ]
    refine z_reads ?_ (by rfl) (fun w' hR => ?_) ?_
    rotate_left
    · have hk1 := hR.cell h1 id
      (go_simp; try with_reducible rfl)
    simp only [Act.put, List.setIfInBounds_toArray, List.set_cons_zero, List.set_cons_succ]
    refine z_reads ?_ (by rfl) (fun w' hR => ?_) ?_
    rotate_left
    · (go_simp; try with_reducible rfl)
    simp only [Act.put, List.setIfInBounds_toArray, List.set_cons_zero, List.set_cons_succ]
    refine z_reads ?_ (by rfl) (fun w' hR => ?_) ?_
    rotate_left
    · (go_simp; try with_reducible rfl)
    simp only [Act.put, List.setIfInBounds_toArray, List.set_cons_zero, List.set_cons_succ]
    refine z_does (by rfl) (fun K hK => ?_)
    go_simp
    refine HWi.out.mono ?_
    rintro e w2 ⟨gT, root, rfl, hgT, hbT, hn, hf2⟩
    refine hK _ _ hf2 ?_
    try simp only [Act.put, List.setIfInBounds_toArray, List.set_cons_zero, List.set_cons_succ]
    refine z_does (by rfl) (fun K hK => ?_)
    refine op_app (Pr := Pl) _ (.const (.slice none 0 0)) (.tmp 18) _ rfl w.heap.size 137 _ 3 48 Tryz.underlying58 infoRoute rfl (by decide) (.slice none 0 0) 0 [] rfl ?a0 none 0 0 (rousV []) rfl ?a1 ?a2 ?a3 ?a4 (by decide) ?a5 ?_
    case a0 => exact ⟨rfl, .inl ⟨rfl, rfl⟩⟩
    case a1 => exact rousV_length _
    case a2 => exact Rd.nil _ _ _
    case a3 => exact rousV_one _
    case a4 => simp
    case a5 => have := hf1.size; have := hf2.size; simp at this; omega
    intro v3 w3 hown3 hf3' hob
    have hf3 : Fr No w2 w3 := hf3'.mono (fun i _ h => by simp [Value.ownBlock] at h)
    simp only [Nat.zero_add, List.nil_append] at hown3
    obtain ⟨A3, c3, rfl, hc3, _⟩ := own_form hown3
    refine hK _ _ hf3 ?_
    have hf13 : Fr No w1 w3 := ((Fr.refl _ _).drew.trans hf2 (fun _ _ h => h)).trans hf3 (fun _ _ h => h)
    have hb3 := hb1.fr hf13 id
    have r0 : w3.cell? ⟨gh, 0, none⟩ = some (.pointer pt) := hb3.cell 0
    have z0 : w3.frozen? ⟨gh, 0, none⟩ = false := hb3.frozen 0
    have hb4 := hb3.set_ 0 (.pointer (some ⟨gT, 0, none⟩))
    have r1 : w3.cell? ⟨gh, 1, none⟩ = some (.int .i64 ver) := hb3.cell 1
    have z1 : w3.frozen? ⟨gh, 1, none⟩ = false := hb3.frozen 1
    have hb5 := hb4.set_ 1 (.int .i64 (ver + 1))
    have r2 : w3.cell? ⟨gh, 2, none⟩ = some (.slice D0 n0 c0) := hb3.cell 2
    have z2 : w3.frozen? ⟨gh, 2, none⟩ = false := hb3.frozen 2
    have hb6 := hb5.set_ 2 (.slice A3 0 c3)
    try simp only [Act.put, List.setIfInBounds_toArray, List.set_cons_zero, List.set_cons_succ]
    refine z_reads ?_ (by rfl) (fun w' hR => ?_) ?_
    rotate_left
    · (go_simp; try with_reducible rfl)
    simp only [Act.put, List.setIfInBounds_toArray, List.set_cons_zero, List.set_cons_succ]
    refine z_pure ?_ (by rfl) (fun w' => ?_) ?_
    rotate_left
    · (go_simp; try with_reducible rfl)
    simp only [Act.put, List.setIfInBounds_toArray, List.set_cons_zero, List.set_cons_succ]
    refine z_reads ?_ (by rfl) (fun w' hR => ?_) ?_
    rotate_left
    · (go_simp; try with_reducible rfl)
    simp only [Act.put, List.setIfInBounds_toArray, List.set_cons_zero, List.set_cons_succ]
    refine z_last (by rfl) (fun K hK => ?_)
    go_simp
    refine hK _ _ ?_
    go_end0
    have hfs : Fr (fun i => i = gh) w3 (((w3.setCell ⟨gh, 0, none⟩ (.pointer (some ⟨gT, 0, none⟩))).setCell ⟨gh, 1, none⟩ (.int .i64 (ver + 1))).setCell ⟨gh, 2, none⟩ (.slice A3 0 c3)) := by
      refine Fr.setCell (Fr.setCell (Fr.setCell (Fr.refl _ _) ?_ _) ?_ _) ?_ _
      · intro _; rfl
      · intro _; rfl
      · intro _; rfl
    have hgh : gh < w.heap.size := hgl
    have hs1 := hf1.size
    have hgT' : w1.heap.size ≤ gT := hgT
    have hne : ¬ gT = gh := by omega
    have hrne : ∀ i, (Value.slice A3 0 c3).ownBlock = some i → ¬ i = gh := fun i hi h => by have := (hown3.lt i hi).1; omega
    refine ⟨gT, root, .slice A3 0 c3, rfl, by omega, by simpa using hb6, (hbT.fr hf3 id).fr hfs hne, ?_, hown3.fr hfs hrne, (hf1.trans hf13 (fun _ _ h => h)).mono (fun _ _ h => absurd h id) |>.trans hfs (fun _ _ h => h)⟩
    exact ((hn.no hf3).over hfs (fun i hi h => by have : w1.heap.size ≤ i := hi.1; omega) (Nat.le_refl _) (fun i hi => ⟨by have : w1.heap.size ≤ i := hi.1; omega, hi.2⟩))

set_option maxRecDepth 100000 in
theorem holderNew_any (Pl : Nat → Prop) (w : World) (hh : Hands w) (A : Option Addr) (c : Nat) (l : List Rou) (hr : Rd Pl w A (rousV l)) (hl : l.length ≤ 1000) (hs : ∀ r ∈ l, rouSmall r) :
    Calls Tryz.prog 43 #[.slice A l.length c] w fun e w' => ∃ gh gT root v, e = .returned (.pointer (some ⟨gh, 0, none⟩)) ∧ w.heap.size ≤ gh ∧ gh < gT ∧
      Blk w' gh 133 #[.pointer (some ⟨gT, 0, none⟩), .int .i64 1, v] ∧ Blk w' gT 201 #[.pointer root, .int .i64 (chosen l).length] ∧
      NodeAt (fun i => gh < i ∧ i ≠ gT) ((chosen l).length + 1) w' root (Cr.withRoutes none (chosen l)) ∧ w'.ownsRow (gh + 1) 137 3 v (chosen l).length (rousV (chosen l)) ∧ Fr No w w' := by
  have hf0 : Fr No w (w.alloc (.cells #[.pointer none, .int .i64 0, .slice none 0 0] 133)) := (Fr.refl _ _).alloc _
  have HS := Lib.hid (set_any Pl _ (hh.fr hf0 id) w.heap.size none 0 none 0 0 A c l (Blk.new w 133 #[.pointer none, .int .i64 0, .slice none 0 0]) (by omega) (by omega) (hr.fr hf0 (fun _ _ h => h)) hl hs)
  go_enter Tryz.func43, Tryz.ntmps43
  go_wp2_with (go_at_call 64; refine HS.out.mono (Hid.out ?_))
  refine Lib.hid ?_
  rintro e w1 ⟨gT, root, v, rfl, hgT, hb, hbT, hn, hown, hf1⟩
  rw [World.size_alloc] at hgT hn hown
  go_wp2_with fail
  go_ret
  have hf := hf0.trans hf1 (fun i hi h => by omega)
  exact ⟨w.heap.size, gT, root, v, rfl, Nat.le_refl _, by omega, hb, hbT, hn.mono (Nat.le_refl _) (fun i _ hi => ⟨by have := hi.1; omega, hi.2⟩), hown, hf⟩
end Go.Proofs.YthcbjeeajoliiaaGreatDoor
