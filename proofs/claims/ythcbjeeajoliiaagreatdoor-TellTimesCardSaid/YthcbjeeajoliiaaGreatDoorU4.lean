/- The server takes a client. -/
import Derived.Test.YthcbjeeajoliiaaGreatDoorU3
set_option linter.unusedVariables false
set_option linter.unusedSimpArgs false
namespace Go.Proofs.YthcbjeeajoliiaaGreatDoor
open Go.RowKit
open Cr (Str)

theorem infoSConnP : (Tryz.prog.info? 99).map (fun i => (i.zero, i.size, i.bytes)) = some (some (.pointer none), 1, 8) := by kernel_rfl

set_option maxRecDepth 100000 in
theorem saccept_quiet (B : Nat) (w : World) (g : Nat) (p : SP) (sb : List (Nat × Nat)) (bs : List Nat) (d : Nat) (ds : List Nat) (h : QSt B w g p sb bs (d :: ds) 0) (hB : B ≤ w.heap.size) (hn : sb.length ≤ 1000) :
    Calls Tryz.prog 50 #[.pointer (some ⟨g, 0, none⟩)] w fun e w' => e = .returned (.tuple #[]) ∧ ∃ b, QSt B w' g p (sb ++ [(b, d)]) bs ds 0 ∧ Fr (fun k => B ≤ k) w w' := by
  obtain ⟨hbase, ⟨vC, hb, hov⟩, hcs, hnet, hrest⟩ := h
  have hdlt := hnet.lt d (by simp)
  obtain ⟨A0, k0, rfl, hk0, _⟩ := own_form hov
  have HA := Lib.hid (accept_quiet B w p.gN bs d ds hnet)
  have c0 : w.cell? ⟨g, 0, none⟩ = some (.pointer (some ⟨p.gN, 0, none⟩)) := hb.cell 0
  obtain ⟨nb, hnb⟩ : ∃ n, sb.length = n := ⟨_, rfl⟩
  have Hnb := Lib.hid hnb
  rw [hnb] at hov hb hk0 hn
  clear hnb hnet
  have Hov := Lib.hid hov
  have Hcs := Lib.hid hcs
  have Hrest := Lib.hid hrest
  clear hov hcs hrest
  go_enter Tryz.func50, Tryz.ntmps50
  go_wp2_with (go_at_call 67; refine HA.out.mono (Hid.out ?_))
  refine Lib.hid ?_
  try simp only [and_imp, forall_exists_index]
  rintro e w1 rfl hnet1 hf1
  have hb1 := hb.off hf1 (Off.ty (by decide))
  have hov1 := own_off Hov.out hf1 (Off.ty (by decide))
  have hcs1 : ∀ x ∈ sb, SConn B w1 x.1 x.2 ∧ x.2 < bs.length := fun x hx => ⟨(Hcs.out x hx).1.off hf1 (Off.ty (by decide)), (Hcs.out x hx).2⟩
  have hrest1 := Hrest.out.off hf1 (Off.ty (by decide))
  have c4 : w1.drew.cell? ⟨g, 4, none⟩ = some (.int .i64 p.window) := hb1.cell 4
  have c10 : w1.drew.cell? ⟨g, 10, none⟩ = some (.slice A0 nb k0) := hb1.cell 10
  have c12 : w1.drew.cell? ⟨g, 12, none⟩ = some (.int .i64 0) := hb1.cell 12
  have hgo : ¬ (Value.slice A0 nb k0).ownBlock = some g := Off.own (ts := [39]) hov1 (by decide) g _ _ (by simp) hb1
  have hw1 := hf1.size
  have Hov1 := Lib.hid hov1
  have Hcs1 := Lib.hid hcs1
  have Hrest1 := Lib.hid hrest1
  have Hnet1 := Lib.hid hnet1
  have Hf1 := Lib.hid (TyS.base hf1)
  have Hgo := Lib.hid hgo
  clear hov1 hcs1 hrest1 hnet1 hf1 c0 hb Hov Hcs Hrest HA hgo
  go_wp2_with fail
  refine wp_region_z (Fr (fun k => (Value.slice A0 nb k0).ownBlock = some k)) (.read 0 (.read 1 (.read 2 (.read 3 (.read 4 (.read 5 (.read 6 (.read 7 (.read 8 (.read 9 (.read 11 (.read 13 (.read 14 (.read 15 (.read 16 (.eff 10 (.eff 12 (.read 17 (.eff 18 (.eff 19 (.eff 20 (.pure 21 (.read 22 (.last 23)))))))))))))))))))))))) (by rfl) (PlanRel.refl _) (PlanRel.trans _) (by intro c a d v w h; cases d <;> exact h) (by kernel_rfl) (fun s hs => ?_) (by kernel_rfl)
  simp only [zOf, List.getElem?_toArray, List.getElem?_cons_succ, List.getElem?_cons_zero, Option.some.injEq] at hs
  subst hs
  refine z_reads ?_ (by rfl) (fun w' hR => ?_) ?_
  rotate_left
  · (go_simp; try with_reducible rfl)
  simp only [Act.put, List.setIfInBounds_toArray, List.set_cons_zero, List.set_cons_succ]
  refine z_reads ?_ (by rfl) (fun w' hR => ?_) ?_
  rotate_left
  · (go_simp; try with_reducible rfl)
  simp only [Act.put, List.setIfInBounds_toArray, List.set_cons_zero, List.set_cons_succ]
  refine z_reads ?_ (by rfl) (fun w' hR => ?_) ?_
  rotate_left
  · (go_simp; try with_reducible rfl)
  simp only [Act.put, List.setIfInBounds_toArray, List.set_cons_zero, List.set_cons_succ]
  refine z_reads ?_ (by rfl) (fun w' hR => ?_) ?_
  rotate_left
  · (go_simp; try with_reducible rfl)
  simp only [Act.put, List.setIfInBounds_toArray, List.set_cons_zero, List.set_cons_succ]
  refine z_reads ?_ (by rfl) (fun w' hR => ?_) ?_
  rotate_left
  · have hk := hR.cell c10 Hgo.out
    (go_simp; try with_reducible rfl)
  simp only [Act.put, List.setIfInBounds_toArray, List.set_cons_zero, List.set_cons_succ]
  refine z_reads ?_ (by rfl) (fun w' hR => ?_) ?_
  rotate_left
  · (go_simp; try with_reducible rfl)
  simp only [Act.put, List.setIfInBounds_toArray, List.set_cons_zero, List.set_cons_succ]
  refine z_reads ?_ (by rfl) (fun w' hR => ?_) ?_
  rotate_left
  · (go_simp; try with_reducible rfl)
  simp only [Act.put, List.setIfInBounds_toArray, List.set_cons_zero, List.set_cons_succ]
  refine z_reads ?_ (by rfl) (fun w' hR => ?_) ?_
  rotate_left
  · (go_simp; try with_reducible rfl)
  simp only [Act.put, List.setIfInBounds_toArray, List.set_cons_zero, List.set_cons_succ]
  refine z_reads ?_ (by rfl) (fun w' hR => ?_) ?_
  rotate_left
  · (go_simp; try with_reducible rfl)
  simp only [Act.put, List.setIfInBounds_toArray, List.set_cons_zero, List.set_cons_succ]
  refine z_reads ?_ (by rfl) (fun w' hR => ?_) ?_
  rotate_left
  · have hk := hR.cell c4 Hgo.out
    (go_simp; try with_reducible rfl)
  simp only [Act.put, List.setIfInBounds_toArray, List.set_cons_zero, List.set_cons_succ]
  refine z_reads ?_ (by rfl) (fun w' hR => ?_) ?_
  rotate_left
  · (go_simp; try with_reducible rfl)
  simp only [Act.put, List.setIfInBounds_toArray, List.set_cons_zero, List.set_cons_succ]
  refine z_reads ?_ (by rfl) (fun w' hR => ?_) ?_
  rotate_left
  · (go_simp; try with_reducible rfl)
  simp only [Act.put, List.setIfInBounds_toArray, List.set_cons_zero, List.set_cons_succ]
  refine z_reads ?_ (by rfl) (fun w' hR => ?_) ?_
  rotate_left
  · (go_simp; try with_reducible rfl)
  simp only [Act.put, List.setIfInBounds_toArray, List.set_cons_zero, List.set_cons_succ]
  refine z_reads ?_ (by rfl) (fun w' hR => ?_) ?_
  rotate_left
  · (go_simp; try with_reducible rfl)
  simp only [Act.put, List.setIfInBounds_toArray, List.set_cons_zero, List.set_cons_succ]
  refine z_reads ?_ (by rfl) (fun w' hR => ?_) ?_
  rotate_left
  · have hk := hR.cell c12 Hgo.out
    (go_simp; try with_reducible rfl)
  simp only [Act.put, List.setIfInBounds_toArray, List.set_cons_zero, List.set_cons_succ]
  refine z_does (by rfl) (fun K hK => ?_)
  go_simp
  refine (reorderNew_any _ _).mono (Hid.out ?_)
  refine Lib.hid ?_
  rintro e w2 ⟨bb, r, n, rfl, hbb, hrr, hn8, hbuf, hring, hf2⟩
  refine hK _ _ (hf2.mono (fun _ _ h => absurd h id)) ?_
  try simp only [Act.put, List.setIfInBounds_toArray, List.set_cons_zero, List.set_cons_succ]
  refine z_does (by rfl) (fun K hK => ?_)
  go_simp
  refine (cutNew_any _).mono (Hid.out ?_)
  refine Lib.hid ?_
  rintro e w3 ⟨rfl, rfl⟩
  refine hK _ _ ?hq3 ?_
  case hq3 => exact (Fr.refl _ _).alloc _
  have hcut := Blk.new w2 146 cutterV
  have hbuf3 := hbuf.alloc (.cells cutterV 146)
  have hw2 := hf2.size
  obtain ⟨W3, hW3⟩ : ∃ W3, w2.alloc (.cells cutterV 146) = W3 := ⟨_, rfl⟩
  have hf3 : Fr No w1.drew W3 := by rw [← hW3]; exact hf2.alloc _
  rw [hW3] at hcut hbuf3 ⊢
  obtain ⟨cc, hcc⟩ : ∃ cc, w2.heap.size = cc := ⟨_, rfl⟩
  rw [hcc] at hcut hw2 ⊢
  have hcclt := hcut.lt
  have h3s : w1.heap.size ≤ W3.heap.size := hf3.size
  clear hW3 hbuf hring hf2 hcc
  try simp only [Act.put, List.setIfInBounds_toArray, List.set_cons_zero, List.set_cons_succ]
  refine z_reads ?_ (by rfl) (fun w' hR => ?_) ?_
  rotate_left
  · (go_simp; try with_reducible rfl)
  simp only [Act.put, List.setIfInBounds_toArray, List.set_cons_zero, List.set_cons_succ]
  refine z_does (by rfl) (fun K hK => ?_)
  go_simp
  refine hK _ _ ?hq4 ?_
  case hq4 => exact (Fr.refl _ _).alloc _
  have hcn := Blk.new W3 104 (sconnV bb d cc)
  try simp only [Act.put, List.setIfInBounds_toArray, List.set_cons_zero, List.set_cons_succ]
  refine z_does (by rfl) (fun K hK => ?_)
  go_simp
  refine hK _ _ ?hq5 ?_
  case hq5 => exact (Fr.refl _ _).alloc _
  have hf5 : Fr No w1 ((W3.alloc (.cells (sconnV bb d cc) 104)).alloc (.cells #[.pointer (some ⟨W3.heap.size, 0, none⟩)] 99)) := ((((Fr.refl _ _).drew).trans hf3 (fun _ _ h => h)).alloc _).alloc _
  try simp only [Act.put, List.setIfInBounds_toArray, List.set_cons_zero, List.set_cons_succ]
  refine z_does (by rfl) (fun K hK => ?_)
  refine op_app (Pr := fun _ => True) _ (.tmp 16) (.tmp 31) _ rfl B 99 _ 1 8 Tryz.underlying35 infoSConnP rfl (by decide) (.slice A0 nb k0) nb (ptrsV (sb.map (·.1))) rfl ?a0 _ 1 1 [.pointer (some ⟨W3.heap.size, 0, none⟩)] rfl rfl ?b2 ?b3 ?b4 (by decide) ?b5 ?_
  case a0 => exact Hov1.out.fr hf5 (fun _ _ => id)
  case b2 => exact Rd.mono (Rd.newAt (by simp) rfl) (fun _ _ _ => trivial)
  case b3 => intro u hu; simp at hu; subst hu; rfl
  case b4 => omega
  case b5 => simp; omega
  intro v6 w6 hown6 hf6 hob6
  obtain ⟨A6, c6, rfl, hc6, _⟩ := own_form hown6
  refine hK _ _ hf6 ?_
  have hoB := Hov1.out.fr hf5 (fun _ _ => id)
  have hb6 := (hb1.fr hf5 id).off hf6 (Off.own hoB (by decide))
  have q0 : w6.cell? ⟨g, 10, none⟩ = some (.slice A0 nb k0) := hb6.cell 10
  have q1 : w6.frozen? ⟨g, 10, none⟩ = false := hb6.frozen 10
  have hb7 := hb6.set_ 10 (.slice A6 (nb + 1) c6)
  try simp only [Act.put, List.setIfInBounds_toArray, List.set_cons_zero, List.set_cons_succ]
  refine z_pure ?_ (by rfl) (fun w' => ?_) ?_
  rotate_left
  · (go_simp; try with_reducible rfl)
  simp only [Act.put, List.setIfInBounds_toArray, List.set_cons_zero, List.set_cons_succ]
  refine z_reads ?_ (by rfl) (fun w' hR => ?_) ?_
  rotate_left
  · (go_simp; try with_reducible rfl)
  simp only [Act.put, List.setIfInBounds_toArray, List.set_cons_zero, List.set_cons_succ]
  refine z_last (by rfl) (fun K hK => ?_)
  go_simp
  refine hK _ _ ?_
  go_wp2_with fail
  go_end0
  have hf7 : Fr (fun i => i = g) w6 (w6.setCell ⟨g, 10, none⟩ (.slice A6 (nb + 1) c6)) := by
    refine Fr.setCell (Fr.refl _ _) ?_ _
    intro _; rfl
  have hnew : SConn B (w6.setCell ⟨g, 10, none⟩ (.slice A6 (nb + 1) c6)) W3.heap.size d := by
    have h3 := hf3.size
    refine ⟨bb, cc, r, n, ?_, ?_, ?_, ?_, ?_, ?_⟩
    · rw [drew_size] at h3; omega
    · rw [drew_size] at hbb; omega
    · rw [drew_size] at hw2; omega
    · exact ((hcn.alloc _).off hf6 (Off.own hoB (by decide))).off hf7 (Off.one hb6 (by decide))
    · exact (((hbuf3.alloc _).alloc _).off hf6 (Off.own hoB (by decide))).off hf7 (Off.one hb6 (by decide))
    · exact (((hcut.alloc _).alloc _).off hf6 (Off.own hoB (by decide))).off hf7 (Off.one hb6 (by decide))
  refine ⟨rfl, W3.heap.size, ⟨hbase, ⟨_, hb7, ?_⟩, ?_, ?_, ?_⟩, ?_⟩
  · have := own_off hown6 hf7 (Off.one hb6 (by decide))
    have e1 := Hnb.out
    simpa [ptrsV, e1] using this
  · intro x hx
    rcases List.mem_append.1 hx with hx | hx
    · exact ⟨(((Hcs1.out x hx).1.off hf5 (Off.no _ _)).off hf6 (Off.own hoB (by decide))).off hf7 (Off.one hb6 (by decide)), (Hcs1.out x hx).2⟩
    · obtain rfl : x = (W3.heap.size, d) := by simpa using hx
      exact ⟨hnew, hdlt⟩
  · exact ((Hnet1.out.off hf5 (Off.no _ _)).off hf6 (Off.own hoB (by decide))).off hf7 (Off.one hb6 (by decide))
  · exact ((Hrest1.out.off hf5 (Off.no _ _)).off hf6 (Off.own hoB (by decide))).off hf7 (Off.one hb6 (by decide))
  · refine Hf1.out.trans (T := fun k => B ≤ k) ?_ (fun _ _ h => h)
    exact ((hf5.mono (fun _ _ h => absurd h id)).trans (T := fun k => B ≤ k) (TyS.base (TyS.own hf6 hoB (ts := [99]) (by simp))) (fun _ _ h => h)).trans (TyS.base (TyS.one hf7 hb6 hbase (ts := [39]) (by simp))) (fun _ _ h => h)
end Go.Proofs.YthcbjeeajoliiaaGreatDoor
