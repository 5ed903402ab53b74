/- A quiet server: a tick. -/
import Derived.Test.YthcbjeeajoliiaaGreatDoorU7
import Derived.Test.YthcbjeeajoliiaaGreatDoorU5
set_option linter.unusedVariables false
set_option linter.unusedSimpArgs false
namespace Go.Proofs.YthcbjeeajoliiaaGreatDoor
open Go.RowKit
open Cr (Str)

theorem close_quiet (B : Nat) (w : World) (gN : Nat) (bs ds : List Nat) (h : QNet B w gN bs ds) (i : Nat) (hi : i < bs.length) :
    Calls Tryz.prog 48 #[.pointer (some ⟨gN, 0, none⟩), .int .i64 i] w fun e w' => e = .returned (.tuple #[]) ∧ QNet B w' gN bs ds ∧ Fr (TyS B [70] w) w w' := by
  obtain ⟨gr, k, b, t, c, h0, h1, hBb, hbm, hb⟩ := h.client hi
  refine (close_in w gN i bs.length k gr 0 b 0 _ c h0 hi h1 hb rfl).mono ?_
  rintro e w' ⟨rfl, hb1, hf⟩
  refine ⟨rfl, ⟨h.base, ?_, ?_, h.lt⟩, TyS.one hf hb hBb (by simp)⟩
  · obtain ⟨v, u, h2, h3, h4⟩ := h.row
    exact ⟨v, u, h2.off hf (Off.one hb (by decide)), own_off h3 hf (Off.one hb (by decide)), h4.off hf (Off.one hb (by decide))⟩
  · intro b' hb'
    obtain ⟨h5, t', c', h6⟩ := h.conns b' hb'
    by_cases he : b' = b
    · subst he
      exact ⟨h5, t, true, hb1⟩
    · exact ⟨h5, t', c', h6.fr hf he⟩

/-- Those that are left when these were dropped. -/
def dropped (l : List (Nat × Nat)) (sb : List (Nat × Nat)) : List (Nat × Nat) := l.foldl (fun a x => without x.2 a) sb
theorem dropped_mem (l sb : List (Nat × Nat)) (y : Nat × Nat) (h : y ∈ dropped l sb) : y ∈ sb ∧ ∀ x ∈ l, x.2 ≠ y.2 := by
  unfold dropped at h
  induction l generalizing sb with
  | nil => exact ⟨h, by simp⟩
  | cons x l ih =>
    rw [List.foldl_cons] at h
    obtain ⟨h1, h2⟩ := ih _ h
    unfold without at h1
    rw [List.mem_filter] at h1
    refine ⟨h1.1, fun z hz => ?_⟩
    rcases List.mem_cons.1 hz with rfl | hz
    · have := h1.2
      simp at this
      exact fun h => this h.symm
    · exact h2 z hz
theorem dropped_all (sb : List (Nat × Nat)) : dropped sb sb = [] := by
  apply List.eq_nil_iff_forall_not_mem.2
  intro y hy
  obtain ⟨h1, h2⟩ := dropped_mem _ _ _ hy
  exact h2 y h1 rfl
theorem dropped_snoc (l sb : List (Nat × Nat)) (x : Nat × Nat) : dropped (l ++ [x]) sb = without x.2 (dropped l sb) := by simp [dropped]
theorem dropped_len (l sb : List (Nat × Nat)) : (dropped l sb).length ≤ sb.length := by
  unfold dropped
  induction l generalizing sb with
  | nil => exact Nat.le_refl _
  | cons x l ih =>
    rw [List.foldl_cons]
    exact Nat.le_trans (ih _) (List.length_filter_le _ _)

/-- What a tick at T leaves, when these were looked at. -/
def left (p : SP) (T : Int) (l sb : List (Nat × Nat)) : List (Nat × Nat) := if p.idle ≤ T then dropped l sb else sb
theorem left_len (p : SP) (T : Int) (l sb : List (Nat × Nat)) : (left p T l sb).length ≤ sb.length := by
  unfold left
  split
  · exact dropped_len l sb
  · exact Nat.le_refl _
theorem left_nil (p : SP) (T : Int) (sb : List (Nat × Nat)) : left p T [] sb = sb := by unfold left; split <;> rfl
theorem left_snoc {p : SP} {T : Int} (h : p.idle ≤ T) (l sb : List (Nat × Nat)) (x : Nat × Nat) : left p T (l ++ [x]) sb = without x.2 (left p T l sb) := by
  unfold left
  rw [if_pos h, if_pos h, dropped_snoc]
theorem left_stay {p : SP} {T : Int} (h : ¬ p.idle ≤ T) (l l' sb : List (Nat × Nat)) : left p T l sb = left p T l' sb := by
  unfold left
  rw [if_neg h, if_neg h]

/-- The server's block at another time. -/
theorem QSt.later {B : Nat} {w : World} {g : Nat} {p : SP} {sb : List (Nat × Nat)} {bs ds : List Nat} {now : Int} (h : QSt B w g p sb bs ds now) (T : Int) : QSt B (w.setCell ⟨g, 12, none⟩ (.int .i64 T)) g p sb bs ds T ∧ Fr (fun k => k = g) w (w.setCell ⟨g, 12, none⟩ (.int .i64 T)) := by
  obtain ⟨hbase, ⟨vC, hb, hov⟩, hcs, hnet, hrest⟩ := h
  have hf1 : Fr (fun i => i = g) w (w.setCell ⟨g, 12, none⟩ (.int .i64 T)) := by
    refine Fr.setCell (Fr.refl _ _) ?_ _
    intro _; rfl
  exact ⟨⟨hbase, ⟨vC, hb.set_ 12 _, own_off hov hf1 (Off.one hb (by decide))⟩, fun x hx => ⟨(hcs x hx).1.off hf1 (Off.one hb (by decide)), (hcs x hx).2⟩, hnet.off hf1 (Off.one hb (by decide)), hrest.off hf1 (Off.one hb (by decide))⟩, hf1⟩

/-- The net alone was turned. -/
theorem QSt.netTurned {B : Nat} {w w' : World} {g : Nat} {p : SP} {sb : List (Nat × Nat)} {bs ds : List Nat} {now : Int} (h : QSt B w g p sb bs ds now) (hf : Fr (TyS B [70] w) w w') (hn : QNet B w' p.gN bs ds) : QSt B w' g p sb bs ds now := by
  obtain ⟨h1, ⟨vC, h2, h3⟩, h4, h5, h6⟩ := h
  exact ⟨h1, ⟨vC, h2.off hf (Off.ty (by decide)), own_off h3 hf (Off.ty (by decide))⟩, fun x hx => ⟨(h4 x hx).1.off hf (Off.ty (by decide)), (h4 x hx).2⟩, hn, h6.off hf (Off.ty (by decide))⟩

set_option maxRecDepth 100000 in
theorem tick_quiet (B : Nat) (w : World) (g : Nat) (p : SP) (sb : List (Nat × Nat)) (bs ds : List Nat) (now : Int) (h : QSt B w g p sb bs ds now) (hB : B ≤ w.heap.size) (hn : sb.length ≤ 1000) (hnow : 0 ≤ now) (hnow2 : now ≤ 1000000) :
    Calls Tryz.prog 31 #[.pointer (some ⟨g, 0, none⟩)] w fun e w' => e = .returned (.tuple #[]) ∧ QSt B w' g p (left p (now + 1) sb sb) bs ds (now + 1) ∧ Fr (fun k => B ≤ k) w w' := by
  obtain ⟨hL, hLf⟩ := h.later (now + 1)
  obtain ⟨hbase, ⟨vC, hb, hov⟩, hcs, hnet, hrest⟩ := h
  obtain ⟨A0, k0, rfl, hk0, hrd0⟩ := own_form hov
  have c12 : w.cell? ⟨g, 12, none⟩ = some (.int .i64 now) := hb.cell 12
  have z12 : w.frozen? ⟨g, 12, none⟩ = false := hb.frozen 12
  have c10 : (w.setCell ⟨g, 12, none⟩ (.int .i64 (now + 1))).cell? ⟨g, 10, none⟩ = some (.slice A0 sb.length k0) := (hb.set_ 12 _).cell 10
  have hovL := own_off hov hLf (Off.one hb (by decide))
  obtain ⟨_, _, hAe, _, hrdL⟩ := own_form hovL
  injection hAe with hAe1 _ hAe3
  subst hAe1 hAe3
  have hszW : w.heap.size ≤ (w.setCell ⟨g, 12, none⟩ (.int .i64 (now + 1))).heap.size := hLf.size
  have HLf := Lib.hid hLf
  obtain ⟨nb, hnb⟩ : ∃ n, sb.length = n := ⟨_, rfl⟩
  have Hnb := Lib.hid hnb
  rw [hnb] at c10 hn
  clear hnb hLf hovL hrd0 hov hcs hnet hrest hb
  have HL := Lib.hid hL
  clear hL
  go_enter Tryz.func31, Tryz.ntmps31
  go_wp2_with (at_builtin; go_must (refine wpList_app (Pr := fun _ => True) _ rfl (.const (.slice none 0 0)) (.tmp 15) _ rfl w.heap.size 99 _ 1 8 Tryz.underlying35 infoSConnP rfl (by decide) (.slice none 0 0) 0 [] rfl ?a0 A0 nb k0 (ptrsV (sb.map (·.1))) rfl ?a1 ?a2 ?a3 ?a4 (by decide) ?a5 ?_))
  case a0 => exact ⟨rfl, .inl ⟨rfl, rfl⟩⟩
  case a1 => have := Hnb.out; simp [ptrsV]; omega
  case a2 => exact hrdL.mono (fun _ _ _ => trivial)
  case a3 => intro u hu; obtain ⟨b, _, rfl⟩ := List.mem_map.1 hu; rfl
  case a4 => omega
  intro v1 w1 hown1 hf1' hob
  have hf1 : Fr No (w.setCell ⟨g, 12, none⟩ (.int .i64 (now + 1))) w1 := hf1'.mono (S' := No) (fun i _ h => by simp [Value.ownBlock] at h)
  obtain ⟨A1, c1, rfl, hc1, _⟩ := own_form hown1
  have hq1 := HL.out.no hf1
  have hsz1 := hf1.size
  have Hf01 : Hid (Fr (fun k => B ≤ k) w w1) := Lib.hid (((HLf.out.mono (fun k _ hk => by rw [hk]; exact hbase)).trans (T := No) hf1 (fun _ _ h => absurd h id)))
  have HC1 : Hid (∀ x ∈ sb, SConn B w1 x.1 x.2 ∧ x.2 < bs.length) := Lib.hid fun x hx => hq1.conns x hx
  have HQ1 := Lib.hid hq1
  have Hown1 := Lib.hid hown1
  have hB1 : B ≤ w1.heap.size := Nat.le_trans (Nat.le_trans hB hszW) hsz1
  clear hown1 hf1' hob hf1 hq1 HL HLf c10 c12 z12 hrdL hszW hsz1
  have hT1 : 1 ≤ now + 1 := by omega
  have hT2 : now + 1 ≤ 1000001 := by omega
  have hrow1 := row_form (w := w1) (B := B) (sb := sb) (k0 := c1) (A := A1) (by rw [Hnb.out]; exact Hown1.out.weaken hB)
  rw [Hnb.out] at hrow1
  have Hrow1 := Lib.hid hrow1
  clear hrow1
  go_wp2_with fail
  generalize hTT : now + 1 = T at hT1 hT2 HQ1 ⊢
  have HTT := Lib.hid hTT
  clear hTT
  have hw0 : IntKind.i64.wrap T = T := IntWalk.i64_in _ (by omega)
  go_loopg [18] nb (fun gm i wr => ∃ k : Nat, k + gm = nb ∧ i = .int .i64 k ∧ Hid (QSt B wr g p (left p T (sb.take k) sb) bs ds T) ∧ Hid (∀ x ∈ sb, SConn B wr x.1 x.2 ∧ x.2 < bs.length) ∧ wr.ownsRow B 99 1 (.slice A1 nb c1) nb (ptrsV (sb.map (·.1))) ∧ Fr (fun k => B ≤ k) w1 wr)
  case atStart => 
    refine ⟨0, by omega, rfl, ?_, HC1, Hown1.out.weaken hB, Fr.refl _ _⟩
    rw [List.take_zero, left_nil]
    exact HQ1
  case round =>
    obtain ⟨k, hkk, rfl, hq, hcs, hown, hfr⟩ := hrel
    have hszr := hfr.size
    have hnb := Hnb.out
    by_cases hlt : k < nb
    · have hlt' : (k : Int) < (nb : Int) := by omega
      obtain ⟨x, hx⟩ : ∃ x, sb[k]? = some x := ⟨sb[k]'(by omega), by simp [show k < sb.length by omega]⟩
      clear hnb
      obtain ⟨gA, rfl, hcell⟩ := row_form (w := wr) (B := B) (sb := sb) (k0 := c1) (A := A1) (by rw [Hnb.out]; exact hown) (by have := Hnb.out; omega)
      have q0 := hcell k x hx
      obtain ⟨⟨bb, cc, r, n, _, _, _, hcb, hbb, hcc⟩, hid⟩ := hcs.out x (List.mem_of_getElem? hx)
      obtain ⟨hbs, ⟨vC, hbg, hovg⟩, hcsg, hnetg, hrestg⟩ := hq.out
      obtain ⟨gr, kr, b', t, c, n0, n1, _, _, hb'⟩ := hnetg.client hid
      have HR := Lib.hid (fun m => ready_quiet (wr.drewN m) p.gN x.2 bs.length kr gr 0 b' t c n0 hid n1 hb')
      have HO := Lib.hid (fun m => open_at (wr.drewN m) bb 0 0 (hbb.cell 1) (hbb.cell 2) (by decide))
      have HD := Lib.hid (fun m => done_at (wr.drewN m) cc false (hcc.cell 13))
      have s0 : wr.cell? ⟨g, 0, none⟩ = some (.pointer (some ⟨p.gN, 0, none⟩)) := hbg.cell 0
      have s5 : wr.cell? ⟨g, 5, none⟩ = some (.int .i64 p.idle) := hbg.cell 5
      have s12 : wr.cell? ⟨g, 12, none⟩ = some (.int .i64 T) := hbg.cell 12
      have s13 : wr.cell? ⟨g, 13, none⟩ = some (.int .i64 0) := hbg.cell 13
      have b0 : wr.cell? ⟨x.1, 0, none⟩ = some (.pointer (some ⟨bb, 0, none⟩)) := hcb.cell 0
      have b1 : wr.cell? ⟨x.1, 1, none⟩ = some (.int .i64 x.2) := hcb.cell 1
      have b2 : wr.cell? ⟨x.1, 2, none⟩ = some (.pointer (some ⟨cc, 0, none⟩)) := hcb.cell 2
      have b4 : wr.cell? ⟨x.1, 4, none⟩ = some (.pointer none) := hcb.cell 4
      have b7 : wr.cell? ⟨x.1, 7, none⟩ = some (.int .i64 0) := hcb.cell 7
      have htake : sb.take (k + 1) = sb.take k ++ [x] := by rw [List.take_add_one, hx]; rfl
      have Htake := Lib.hid htake
      have hxm : x ∈ sb := List.mem_of_getElem? hx
      clear hcell hx htake n0 n1 hb' hovg hcsg hrestg hcc hbb
      go_wp2_with fail
      go_quiet (first | (go_at_call 45; exact Calls.quiet_of (HO.out _)) | (go_at_call 46; exact Calls.quiet_of_same (HD.out _)) | (go_at_call 47; exact Calls.quiet_of_same (HR.out _)))
      go_wp2_with fail
      obtain ⟨W2, hW2⟩ : ∃ W2, wr.drewN nq = W2 := ⟨_, rfl⟩
      have hR2 : Fr No wr W2 := by rw [← hW2]; exact fr_drewN _ _
      rw [hW2]
      clear hW2 HR HO HD q0 b0 b2 b4
      replace s0 := hR2.cell s0 id
      replace s5 := hR2.cell s5 id
      replace s12 := hR2.cell s12 id
      replace s13 := hR2.cell s13 id
      replace b1 := hR2.cell b1 id
      replace b7 := hR2.cell b7 id
      have hq2 := Lib.hid (hq.out.no hR2)
      have hcs2 : Hid (∀ x ∈ sb, SConn B W2 x.1 x.2 ∧ x.2 < bs.length) := Lib.hid fun y hy => ⟨(hcs.out y hy).1.off hR2 (Off.no _ _), (hcs.out y hy).2⟩
      replace hown := hown.fr hR2 (fun _ _ => id)
      have hfr2 : Fr (fun k => B ≤ k) w1 W2 := hfr.trans hR2 (fun _ _ h => absurd h id)
      clear hq hcs hfr hcb hbg hnetg hR2 hszr
      by_cases hidle : p.idle ≤ T
      · have Hidle := Lib.hid hidle
        go_quiet (fail)
        go_wp2_with fail
        obtain ⟨W3, hW3⟩ : ∃ W3, W2.drewN nq = W3 := ⟨_, rfl⟩
        have hR3 : Fr No W2 W3 := by rw [← hW3]; exact fr_drewN _ _
        rw [hW3]
        have r0 := (hR3.drewN 1).cell s0 id
        have r1 := (hR3.drewN 1).cell b1 id
        have HQ3 := Lib.hid (hq2.out.no hR3)
        have HCl := Lib.hid (fun W (hW : Fr No W3 W) => close_quiet B W p.gN bs ds (HQ3.out.no hW).net x.2 hid)
        clear hW3 s0 s5 s12 s13 b1 b7
        have hng : ¬ TyS B [70] W3 g := by
          obtain ⟨_, hbG, _⟩ := HQ3.out.srv
          exact Off.ty (us := [39]) (by decide) g _ _ (by simp) hbG
        have hnx : ¬ TyS B [70] W3 x.1 := by
          obtain ⟨⟨_, _, _, _, _, _, _, hcb, _, _⟩, _⟩ := hcs2.out x hxm
          exact Off.ty (us := [104]) (by decide) x.1 _ _ (by simp) (hcb.fr hR3 id)
        have Hng := Lib.hid hng
        have Hnx := Lib.hid hnx
        clear hng hnx
        refine wp_region_steps (Fr (TyS B [70] W3)) [(0, false), (1, false), (2, false), (3, false), (4, false), (5, false), (6, false), (7, false), (8, true)] (by rfl) (PlanRel.refl _) (PlanRel.trans _) (by intro c a d v w h; cases d <;> exact h) (by kernel_rfl) (fun l hl => ?_) (by kernel_rfl)
        simp only [stepsOf, List.getElem?_toArray, List.getElem?_cons_succ, List.getElem?_cons_zero, Option.some.injEq] at hl
        subst hl
        refine plan_reads ?_ (by rfl) (fun w' hR => ?_) ?_
        rotate_left
        · (go_simp; try with_reducible rfl)
        simp only [Act.put, List.setIfInBounds_toArray, List.set_cons_zero, List.set_cons_succ]
        refine plan_reads ?_ (by rfl) (fun w' hR => ?_) ?_
        rotate_left
        · (go_simp; try with_reducible rfl)
        simp only [Act.put, List.setIfInBounds_toArray, List.set_cons_zero, List.set_cons_succ]
        refine plan_reads ?_ (by rfl) (fun w' hR => ?_) ?_
        rotate_left
        · (go_simp; try with_reducible rfl)
        simp only [Act.put, List.setIfInBounds_toArray, List.set_cons_zero, List.set_cons_succ]
        refine plan_reads ?_ (by rfl) (fun w' hR => ?_) ?_
        rotate_left
        · have hk := hR.cell r0 Hng.out
          (go_simp; try with_reducible rfl)
        simp only [Act.put, List.setIfInBounds_toArray, List.set_cons_zero, List.set_cons_succ]
        refine plan_reads ?_ (by rfl) (fun w' hR => ?_) ?_
        rotate_left
        · (go_simp; try with_reducible rfl)
        simp only [Act.put, List.setIfInBounds_toArray, List.set_cons_zero, List.set_cons_succ]
        refine plan_reads ?_ (by rfl) (fun w' hR => ?_) ?_
        rotate_left
        · (go_simp; try with_reducible rfl)
        simp only [Act.put, List.setIfInBounds_toArray, List.set_cons_zero, List.set_cons_succ]
        refine plan_reads ?_ (by rfl) (fun w' hR => ?_) ?_
        rotate_left
        · (go_simp; try with_reducible rfl)
        simp only [Act.put, List.setIfInBounds_toArray, List.set_cons_zero, List.set_cons_succ]
        refine plan_reads ?_ (by rfl) (fun w' hR => ?_) ?_
        rotate_left
        · have hk := hR.cell r1 Hnx.out
          (go_simp; try with_reducible rfl)
        simp only [Act.put, List.setIfInBounds_toArray, List.set_cons_zero, List.set_cons_succ]
        refine plan_does (by rfl) (fun K hK => ?_)
        go_simp
        refine (HCl.out _ (Fr.refl _ _).drew).mono (Hid.out ?_)
        refine Lib.hid ?_
        rintro e w4 ⟨rfl, hn4, hf4⟩
        refine hK _ _ hf4 ?_
        try simp only [Act.put, List.setIfInBounds_toArray, List.set_cons_zero, List.set_cons_succ]
        refine plan_end ?_
        have hf34 : Fr (TyS B [70] W3) W3 w4 := TyS.then (TyS.none (Fr.refl No W3).drew) hf4
        have hq4 := HQ3.out.netTurned hf34 hn4
        have hcs4 : Hid (∀ x ∈ sb, SConn B w4 x.1 x.2 ∧ x.2 < bs.length) := Lib.hid fun y hy => ⟨((hcs2.out y hy).1.off hR3 (Off.no _ _)).off hf34 (Off.ty (by decide)), (hcs2.out y hy).2⟩
        have hown4 := own_off (hown.fr hR3 (fun _ _ => id)) hf34 (Off.ty (by decide))
        have hfr4 : Fr (fun k => B ≤ k) w1 w4 := (hfr2.trans hR3 (fun _ _ h => absurd h id)).trans (TyS.base hf34) (fun _ _ h => h)
        have v1 : w4.cell? ⟨x.1, 1, none⟩ = some (.int .i64 x.2) := by
          obtain ⟨⟨_, _, _, _, _, _, _, hcb, _, _⟩, _⟩ := hcs4.out x hxm
          have := hcb.cell 1
          rw [this]
          rfl
        have hlen : (left p T (sb.take k) sb).length ≤ 1000 := by
          have := left_len p T (sb.take k) sb
          have := Hnb.out
          omega
        have hs4 := hfr4.size
        have HDr := Lib.hid (drop_quiet B w4 g p _ bs ds T x.2 hq4 (by omega) hlen)
        have Hown4 := Lib.hid hown4
        have Hfr4 := Lib.hid hfr4
        have hbg := hq4.base
        have hbS := hq4.srv
        have HbS := Lib.hid hbS
        clear hf34 hq4 hown4 hfr4 hs4 hlen hn4 hf4 r0 r1 HQ3 HCl hfr2 hown hcs2 hq2 hbS
        go_wp2_with (go_at_call 30; refine HDr.out.mono (Hid.out ?_))
        refine Lib.hid ?_
        try simp only [and_imp, forall_exists_index]
        rintro e w5 rfl hq5 hf5
        obtain ⟨vS, hbS, _⟩ := HbS.out
        go_wp2_with fail
        go_roundg (gk - 1)
        case measure => omega
        case rel =>
          refine ⟨k + 1, by omega, by go_num, ?_, ?_, own_off Hown4.out hf5 (Off.one hbS (by decide)), Hfr4.out.trans (T := fun k => B ≤ k) (hf5.mono (fun _ _ h => by rw [h]; exact hbg)) (fun _ _ h => h)⟩
          · rw [Htake.out, left_snoc Hidle.out]
            exact Lib.hid hq5
          · exact Lib.hid fun y hy => ⟨(hcs4.out y hy).1.off hf5 (Off.one hbS (by decide)), (hcs4.out y hy).2⟩
      · have hidle' : decide (p.idle ≤ T) = false := by simpa using hidle
        go_quiet (fail)
        go_wp2_with fail
        go_roundg (gk - 1)
        case measure => omega
        case rel =>
          have hni : ¬ p.idle ≤ T := by omega
          refine ⟨k + 1, by omega, by go_num, ?_, ?_, hown.fr (fr_drewN _ _) (fun _ _ => id), hfr2.drewN _⟩
          · rw [left_stay hni _ (sb.take k)]
            exact Lib.hid (hq2.out.no (fr_drewN _ _))
          · exact Lib.hid fun y hy => ⟨(hcs2.out y hy).1.off (fr_drewN _ _) (Off.no _ _), (hcs2.out y hy).2⟩
    · have hlt' : ¬ (k : Int) < (nb : Int) := by omega
      obtain rfl : k = nb := by omega
      rw [← Hnb.out, List.take_length] at hq
      have hlen : (left p T sb sb).length ≤ 1000 := by
        have := left_len p T sb sb
        omega
      have HS := Lib.hid (settle_quiet B wr g p _ bs ds T hq.out (by omega) hlen)
      clear hnb hlen
      have hbg := hq.out.base
      go_wp2_with (go_at_call 33; refine HS.out.mono (Hid.out ?_))
      refine Lib.hid ?_
      try simp only [and_imp, forall_exists_index]
      rintro e w2 rfl hq2 hf2
      go_wp2_with fail
      go_end0
      obtain rfl := HTT.out
      exact ⟨rfl, hq2, Hf01.out.trans (hfr.trans (T := fun k => B ≤ k) (hf2.mono (fun _ _ h => by rw [h]; exact hbg)) (fun _ _ h => h)) (fun _ _ h => h)⟩
end Go.Proofs.YthcbjeeajoliiaaGreatDoor
