/- trie: With, of nothing. -/
import Derived.Test.YthcbjeeajoliiaaGreatDoorT5
set_option linter.unusedVariables false
set_option linter.unusedSimpArgs false
namespace Go.Proofs.YthcbjeeajoliiaaGreatDoor
open Go.RowKit
open Cr (Str Rou)

set_option maxRecDepth 100000 in
set_option maxHeartbeats 4000000 in
theorem with_nil (Pl : Nat → Prop) (w : World) (A : Option Addr) (c : Nat) (l : List Rou) (hr : Rd Pl w A (rousV l)) (hl : l.length ≤ 1000) (hs : ∀ r ∈ l, rouSmall r) :
    Calls Tryz.prog 93 #[.pointer none, .slice A l.length c] w fun e w' => ∃ g root, e = .returned (.pointer (some ⟨g, 0, none⟩)) ∧ w.heap.size ≤ g ∧ Blk w' g 201 #[.pointer root, .int .i64 l.length] ∧
      NodeAt (fun i => w.heap.size ≤ i ∧ i ≠ g) (l.length + 1) w' root (Cr.withRoutes none l) ∧ Fr No w w' := by
  have hl' : (l.length : Int) ≤ 1000 := by omega
  have HS := Lib.hid hs
  obtain ⟨gT, hgT⟩ : ∃ gT, w.heap.size = gT := ⟨_, rfl⟩
  have hb0 := Blk.new w 201 #[.pointer none, .int .i64 0]
  have hf0 : Fr No w (w.alloc (.cells #[.pointer none, .int .i64 0] 201)) := (Fr.refl _ _).alloc _
  have HgT := Lib.hid hgT
  clear hs hgT
  go_enter Tryz.func93, Tryz.ntmps93
  go_wp2_with fail
  rw [HgT.out] at hb0 ⊢
  go_loopg [21] l.length (fun gm i wr => ∃ (k : Nat) (root : Option Addr) (n : Option Cr.Node), k + gm = l.length ∧ i = .int .i64 k ∧ Blk wr gT 201 #[.pointer root, .int .i64 k] ∧ NodeAt (fun i => gT < i) (k + 1) wr root n ∧ Fr No w wr ∧ Hid (Cr.withRoutes none l = Cr.withRoutes n (l.drop k)))
  case atStart => exact ⟨0, none, none, by omega, rfl, hb0, .nil, hf0, (rfl : Cr.withRoutes none l = Cr.withRoutes none (l.drop 0))⟩
  case round =>
    obtain ⟨k, root, n, hk, rfl, hb, hn, hfr, HI⟩ := hrel
    have hgl := hb.lt
    by_cases hlt : k < l.length
    · have hlt' : (k : Int) < (l.length : Int) := by omega
      obtain ⟨r, hx⟩ : ∃ r, l[k]? = some r := ⟨l[k], by simp [hlt]⟩
      obtain ⟨gb, off, rfl, hgb, hcell⟩ := hr.form (fun h => by have := rousV_length l; rw [h] at this; simp at this; omega)
      obtain ⟨p0, p1, p2⟩ := rouV_at (P := Pl) hcell hx
      have q0 := hfr.cell p0 id
      have q1 := hfr.cell p1 id
      have q2 := hfr.cell p2 id
      have hsm := HS.out r (List.mem_of_getElem? hx)
      have hstep : Cr.withRoutes n (l.drop k) = Cr.withRoutes (some (Cr.putGo r (Cr.pattern r.pattern).1 n)) (l.drop (k + 1)) := by
        obtain ⟨h1, h2⟩ := List.getElem?_eq_some_iff.1 hx
        rw [List.drop_eq_getElem_cons h1, h2]
        rfl
      have HPt := Lib.hid (fun W => pattern_any W r.pattern hsm.2.1)
      have hpsm : ∀ x ∈ (Cr.pattern r.pattern).1, x.length ≤ 1000000 := fun x hx => Nat.le_trans (pattern_small hx) hsm.2.1
      generalize (Cr.pattern r.pattern).2 = pb at HPt
      generalize (Cr.pattern r.pattern).1 = pl at HPt hstep hpsm
      have Hst := Lib.hid hstep
      have Hps := Lib.hid hpsm
      clear hx p0 p1 p2 hcell hsm hstep hpsm
      go_wp2_with (go_at_call 95; refine (HPt.out _).mono ?_)
      rintro e w2 ⟨v, rfl, hown, hf2⟩
      obtain ⟨A2, c2, rfl, hc2, hr2⟩ := own_form hown
      obtain ⟨gr, hgr⟩ : ∃ gr, wr.heap.size = gr := ⟨_, rfl⟩
      have hbr := (Blk.new wr 137 #[.string ⟨r.method.toArray⟩, .string ⟨r.pattern.toArray⟩, .string ⟨r.handler.toArray⟩]).fr hf2 id
      rw [hgr] at hbr ⊢
      have hf2' : Fr No wr w2 := ((Fr.refl _ _).alloc _).trans hf2 (fun _ _ h => h)
      have hb2 := hb.fr hf2' id
      have hn2 := hn.no hf2'
      have c0 : w2.drew.cell? ⟨gT, 0, none⟩ = some (.pointer root) := hb2.cell 0
      have t0 : w2.drew.cell? ⟨gr, 0, none⟩ = some (.string ⟨r.method.toArray⟩) := hbr.cell 0
      have t1 : w2.drew.cell? ⟨gr, 1, none⟩ = some (.string ⟨r.pattern.toArray⟩) := hbr.cell 1
      have t2 : w2.drew.cell? ⟨gr, 2, none⟩ = some (.string ⟨r.handler.toArray⟩) := hbr.cell 2
      have hcm2 : c2 ≤ 9223372036854775807 := by
        rcases hown.2 with ⟨h1, _⟩ | ⟨g', cap, cur, h1, _, _, _, hcm, _⟩
        · injection h1; omega
        · injection h1
          unfold maxLen at hcm
          omega
      have HPu := Lib.hid (put_all (k + 1) (by omega) (by omega) (pl.length + 1) (fun i => gT < i) _ pl r root n w2.drew A2 c2 (by omega) hc2 hcm2 Hps.out (hr2.fr (Fr.refl No _).drew (fun _ _ h => h)) (hn2.no (Fr.refl _ _).drew))
      clear hown hf2
      go_wp2_with fail
      refine wp_region_z (Fr No) (.read 0 (.read 1 (.read 2 (.read 3 (.read 4 (.read 5 (.read 6 (.eff 7 (.pure 8 (.read 9 (.last 10))))))))))) (by rfl) (PlanRel.refl _) (PlanRel.trans _) (by intro c a d v w h; cases d <;> exact h) (by kernel_rfl) (fun s hs => ?_) (by kernel_rfl)
      simp only [zOf, List.getElem?_toArray, List.getElem?_cons_succ, List.getElem?_cons_zero, Option.some.injEq] at hs
      subst hs
      refine z_reads ?_ (by rfl) (fun w' hR => ?_) ?_
      rotate_left
      · (go_simp; try with_reducible rfl)
      simp only [Act.put, List.setIfInBounds_toArray, List.set_cons_zero, List.set_cons_succ]
      refine z_reads ?_ (by rfl) (fun w' hR => ?_) ?_
      rotate_left
      · (go_simp; try with_reducible rfl)
      simp only [Act.put, List.setIfInBounds_toArray, List.set_cons_zero, List.set_cons_succ]
      refine z_reads ?_ (by rfl) (fun w' hR => ?_) ?_
      rotate_left
      · (go_simp; try with_reducible rfl)
      simp only [Act.put, List.setIfInBounds_toArray, List.set_cons_zero, List.set_cons_succ]
      refine z_reads ?_ (by rfl) (fun w' hR => ?_) ?_
      rotate_left
      · (go_simp; try with_reducible rfl)
      simp only [Act.put, List.setIfInBounds_toArray, List.set_cons_zero, List.set_cons_succ]
      refine z_reads ?_ (by rfl) (fun w' hR => ?_) ?_
      rotate_left
      · have hk1 := hR.cell c0 id
        (go_simp; try with_reducible rfl)
      simp only [Act.put, List.setIfInBounds_toArray, List.set_cons_zero, List.set_cons_succ]
      refine z_reads ?_ (by rfl) (fun w' hR => ?_) ?_
      rotate_left
      · (go_simp; try with_reducible rfl)
      simp only [Act.put, List.setIfInBounds_toArray, List.set_cons_zero, List.set_cons_succ]
      refine z_reads ?_ (by rfl) (fun w' hR => ?_) ?_
      rotate_left
      · have hk1 := hR.cell t0 id
        have hk2 := hR.cell t1 id
        have hk3 := hR.cell t2 id
        (go_simp; try with_reducible rfl)
      simp only [Act.put, List.setIfInBounds_toArray, List.set_cons_zero, List.set_cons_succ]
      refine z_does (by rfl) (fun K hK => ?_)
      go_simp
      refine HPu.out.mono ?_
      rintro e w3 ⟨g3, rfl, hn3, hf3⟩
      refine hK _ _ hf3 ?_
      have hf23 : Fr No w2 w3 := (Fr.refl _ _).drew.trans hf3 (fun _ _ h => h)
      have hb3 := hb2.fr hf23 id
      have c3 : w3.cell? ⟨gT, 0, none⟩ = some (.pointer root) := hb3.cell 0
      have z3 : w3.frozen? ⟨gT, 0, none⟩ = false := hb3.frozen 0
      try simp only [Act.put, List.setIfInBounds_toArray, List.set_cons_zero, List.set_cons_succ]
      refine z_pure ?_ (by rfl) (fun w' => ?_) ?_
      rotate_left
      · (go_simp; try with_reducible rfl)
      simp only [Act.put, List.setIfInBounds_toArray, List.set_cons_zero, List.set_cons_succ]
      refine z_reads ?_ (by rfl) (fun w' hR => ?_) ?_
      rotate_left
      · (go_simp; try with_reducible rfl)
      simp only [Act.put, List.setIfInBounds_toArray, List.set_cons_zero, List.set_cons_succ]
      refine z_last (by rfl) (fun K hK => ?_)
      go_simp
      refine hK _ _ ?_
      have hb4 := hb3.set_ 0 (.pointer (some ⟨g3, 0, none⟩))
      have c4 : (w3.setCell ⟨gT, 0, none⟩ (.pointer (some ⟨g3, 0, none⟩))).cell? ⟨gT, 1, none⟩ = some (.int .i64 k) := hb4.cell 1
      have z4 : (w3.setCell ⟨gT, 0, none⟩ (.pointer (some ⟨g3, 0, none⟩))).frozen? ⟨gT, 1, none⟩ = false := hb4.frozen 1
      have hb5 := hb4.set_ 1 (.int .i64 ((k : Int) + 1))
      have hfs : Fr (fun i => i = gT) w3 ((w3.setCell ⟨gT, 0, none⟩ (.pointer (some ⟨g3, 0, none⟩))).setCell ⟨gT, 1, none⟩ (.int .i64 ((k : Int) + 1))) := by
        refine Fr.setCell (Fr.setCell (Fr.refl _ _) ?_ _) ?_ _
        · intro _; rfl
        · intro _; rfl
      have hf03 := (hfr.trans hf2' (fun _ _ h => h)).trans hf23 (fun _ _ h => h)
      have hsz2 := hf2'.size
      go_wp2_with fail
      go_roundg (gk - 1)
      case measure => omega
      case rel =>
        refine ⟨k + 1, some ⟨g3, 0, none⟩, _, by omega, by go_num, ?_, ?_, hf03.trans hfs (fun i hi h => by have := HgT.out; omega), HI.out.trans Hst.out⟩
        · have e : ((k + 1 : Nat) : Int) = (k : Int) + 1 := by omega
          rw [e]
          exact hb5
        · exact hn3.over hfs (fun i hi h => hi.elim (fun hi => by omega) (fun hi => by have : w2.heap.size ≤ i := hi; omega)) (Nat.le_refl _) (fun i hi => hi.elim id (fun hi => by have : w2.heap.size ≤ i := hi; omega))
    · have hlt' : ¬ (k : Int) < (l.length : Int) := by omega
      have hkl : k = l.length := by omega
      have Hkl := Lib.hid hkl
      clear hkl
      go_wp2_with fail
      go_ret
      refine ⟨gT, rfl, by have := HgT.out; omega, root, ?_, ?_, hfr⟩
      · rw [← Hkl.out]
        exact hb
      · have hwr : Cr.withRoutes none l = n := by
          rw [HI.out, List.drop_of_length_le (by omega)]
          rfl
        rw [hwr, ← Hkl.out]
        exact hn.mono (Nat.le_refl _) (fun i _ hi => ⟨by have := HgT.out; omega, by omega⟩)
end Go.Proofs.YthcbjeeajoliiaaGreatDoor
