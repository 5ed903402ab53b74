/- The steps of a quiet server. -/
import Derived.Test.YthcbjeeajoliiaaGreatDoorU5
set_option linter.unusedVariables false
set_option linter.unusedSimpArgs false
namespace Go.Proofs.YthcbjeeajoliiaaGreatDoor
open Go.RowKit
open Cr (Str)

theorem infoFunc : (Tryz.prog.info? 1).map (fun i => (i.zero, i.size, i.bytes)) = some (some .nilFunc, 1, 8) := by kernel_rfl

/-- The closure that takes a client. -/
def acceptFn (g : Nat) : Value := .func (.func 50) #[.pointer (some ⟨g, 0, none⟩)] #[]

set_option maxRecDepth 100000 in
theorem able_none (B : Nat) (w : World) (g : Nat) (p : SP) (sb : List (Nat × Nat)) (bs ds : List Nat) (now : Int) (h : QSt B w g p sb bs ds now) (hn : sb.length ≤ 1000) (hd : ds.length ≤ 1000) (hno : ds = [] ∨ p.conns ≤ (sb.length : Int)) :
    Calls Tryz.prog 32 #[.pointer (some ⟨g, 0, none⟩)] w fun e w' => e = .returned (.slice none 0 0) ∧ Fr No w w' := by
  have HMR : Hid (∀ x, x ∈ sb → ∀ W, Fr No w W → Calls Tryz.prog 51 #[.pointer (some ⟨g, 0, none⟩), .pointer (some ⟨x.1, 0, none⟩)] W fun e w' => e = .returned (.bool false) ∧ ∃ m, w' = W.drewN m) := Lib.hid fun x hx W hW => by
    obtain ⟨h1, ⟨vC, h2, h3⟩, h4, h5, h6⟩ := h.no hW
    exact mayRead_quiet B W g p.gN x.1 x.2 _ bs ds h2 rfl h5 (h4 x hx).1 (h4 x hx).2
  have HMW : Hid (∀ i, i < p.wk → ∀ W, Fr No w W → Calls Tryz.prog 54 #[.pointer (some ⟨g, 0, none⟩), .int .i64 i] W fun e w' => e = .returned (.bool false) ∧ w' = W) := Lib.hid fun i hi W hW => by
    obtain ⟨h1, ⟨vC, h2, h3⟩, h4, h5, h6⟩ := h.no hW
    exact mayWork_quiet B W g p vC now i h2 h6 hi
  have HBR : Hid (∀ x, x ∈ sb → ∃ bb, w.cell? ⟨x.1, 0, none⟩ = some (.pointer (some ⟨bb, 0, none⟩)) ∧ ∀ W, Fr No w W → Calls Tryz.prog 57 #[.pointer (some ⟨bb, 0, none⟩)] W fun e w' => e = .returned (.bool false) ∧ ∃ m, w' = W.drewN m) := Lib.hid fun x hx => by
    obtain ⟨bb, cc, r, n, _, _, _, hcb, hbb, hcc⟩ := (h.conns x hx).1
    refine ⟨bb, hcb.cell 0, fun W hW => ?_⟩
    have hbb' := hbb.fr hW id
    exact bready_none W bb 0 (hbb'.cell 1) (hbb'.cell 2)
  obtain ⟨hbase, ⟨vC, hb, hov⟩, hcs, hnet, hrest⟩ := h
  have hwk := hrest.wk4
  obtain ⟨A0, k0, rfl, hk0, _⟩ := own_form hov
  have Hrow : Hid (0 < sb.length → ∃ gA, A0 = some ⟨gA, 0, none⟩ ∧ ∀ (k : Nat) x, sb[k]? = some x → w.cell? ⟨gA, k, none⟩ = some (.pointer (some ⟨x.1, 0, none⟩))) := Lib.hid fun h0 => by
    obtain ⟨gA, c, hv, _⟩ := hov.ofPos h0
    injection hv with hA
    subst hA
    refine ⟨gA, rfl, fun k x hx => ?_⟩
    exact hov.at_ (ptrsV_at (by simp [hx]))
  obtain ⟨v, u, hbN, _, D, cD, hu, hcD, _⟩ := hnet.row
  have n1 : w.cell? ⟨p.gN, 1, none⟩ = some (.slice D ds.length cD) := by rw [hbN.cell 1, hu]; rfl
  have hne : ¬ g = p.gN := hb.ne_ hbN (by decide)
  have hlt := hb.lt
  obtain ⟨bx, hbx⟩ : ∃ n, w.heap.size = n := ⟨_, rfl⟩
  have Hbx := Lib.hid hbx
  clear hov hcs hnet hrest hbN hu
  have hfb : Fr No w (w.alloc (.cells #[.pointer (some ⟨g, 0, none⟩)] 25)) := (Fr.refl _ _).alloc _
  have hbox := Blk.new w 25 #[.pointer (some ⟨g, 0, none⟩)]
  rw [hbx] at hbox
  go_enter Tryz.func32, Tryz.ntmps32
  go_wp2_with fail
  clear hbx
  obtain ⟨W0, hW0⟩ : ∃ W0, w.alloc (.cells #[.pointer (some ⟨g, 0, none⟩)] 25) = W0 := ⟨_, rfl⟩
  rw [hW0] at hfb hbox ⊢
  clear hW0
  have hb0 := hb.fr hfb id
  have b0 : W0.cell? ⟨bx, 0, none⟩ = some (.pointer (some ⟨g, 0, none⟩)) := hbox.cell 0
  have s0 : W0.cell? ⟨g, 0, none⟩ = some (.pointer (some ⟨p.gN, 0, none⟩)) := hb0.cell 0
  have s1 : W0.cell? ⟨g, 1, none⟩ = some (.int .i64 p.conns) := hb0.cell 1
  have s10 : W0.cell? ⟨g, 10, none⟩ = some (.slice A0 sb.length k0) := hb0.cell 10
  have s11 : W0.cell? ⟨g, 11, none⟩ = some (.slice (some ⟨p.gk, 0, none⟩) p.wk p.wk) := hb0.cell 11
  have s13 : W0.cell? ⟨g, 13, none⟩ = some (.int .i64 0) := hb0.cell 13
  have n1' := hfb.cell n1 id
  have HDi := Lib.hid (fun m => dials_at (W0.drewN m) p.gN D ds.length cD n1')
  have Hfb := Lib.hid hfb
  clear hb hb0 n1 n1' hfb
  by_cases hd0 : ds.length = 0
  · rw [hd0] at HDi
    have hg0 : decide ((0 : Int) < ((0 : Nat) : Int)) = false := by decide
    go_quiet ((go_at_call 49; exact Calls.quiet_of_same (HDi.out _)))
    go_wp2_with fail
    obtain ⟨W1, hW1⟩ : ∃ W1, W0.drewN nq = W1 := ⟨_, rfl⟩
    have hf1 : Fr No w W1 := by rw [← hW1]; exact Hfb.out.drewN nq
    have t0 : W1.cell? ⟨bx, 0, none⟩ = some (.pointer (some ⟨g, 0, none⟩)) := by rw [← hW1]; exact b0
    have t10 : W1.cell? ⟨g, 10, none⟩ = some (.slice A0 sb.length k0) := by rw [← hW1]; exact s10
    have t11 : W1.cell? ⟨g, 11, none⟩ = some (.slice (some ⟨p.gk, 0, none⟩) p.wk p.wk) := by rw [← hW1]; exact s11
    rw [hW1]
    clear hW1 b0 s10 s11 s0 s1 s13 hbox
    have Hf1 := Lib.hid hf1
    clear hf1
    go_loopg [3, 45] sb.length (fun gm v i wr => ∃ k : Nat, k + gm = sb.length ∧ i = .int .i64 k ∧ v = .slice none 0 0 ∧ Fr No W1 wr)
    case atStart => exact ⟨0, by omega, rfl, rfl, Fr.refl _ _⟩
    case round =>
      obtain ⟨k, hkk, rfl, rfl, hfr⟩ := hrel
      by_cases hlt : k < sb.length
      · have hlt' : (k : Int) < (sb.length : Int) := by omega
        obtain ⟨x, hx⟩ : ∃ x, sb[k]? = some x := ⟨sb[k], by simp [hlt]⟩
        obtain ⟨gA, rfl, hcell⟩ := Hrow.out (by omega)
        have q0 := hfr.cell (Hf1.out.cell (hcell k x hx) id) id
        have qb : (wr.alloc (.cells #[.pointer (some ⟨x.1, 0, none⟩)] 99)).cell? ⟨bx, 0, none⟩ = some (.pointer (some ⟨g, 0, none⟩)) := (hfr.alloc _).cell t0 id
        have Hmr := Lib.hid (fun W (hW : Fr No wr W) => HMR.out x (List.mem_of_getElem? hx) W ((Hf1.out.trans hfr (fun _ _ h => h)).trans hW (fun _ _ h => h)))
        clear hcell hx
        go_wp2_with (go_at_call 51; refine (Hmr.out _ ?hal).mono (Hid.out ?_))
        case hal => exact (Fr.refl _ _).alloc _
        refine Lib.hid ?_
        try simp only [and_imp, forall_exists_index]
        rintro e w2 rfl m rfl
        go_wp2_with fail
        go_roundg (gk - 1)
        case measure => omega
        case rel => exact ⟨k + 1, by omega, by go_num, rfl, (hfr.alloc _).drewN m⟩
      · have hlt' : ¬ (k : Int) < (sb.length : Int) := by omega
        have u0 := hfr.cell t0 id
        have u10 := hfr.cell t10 id
        have u11 := hfr.cell t11 id
        have Hf2 := Lib.hid (Hf1.out.trans hfr (fun _ _ h => h))
        go_wp2_with fail
        clear t0 t10 t11 Hf1 hfr hkk hlt hlt'
        obtain ⟨wA, rfl⟩ : ∃ x, x = wr := ⟨_, rfl⟩
        go_loopg [3, 62] p.wk (fun gm v i wr => ∃ j : Nat, j + gm = p.wk ∧ i = .int .i64 j ∧ v = .slice none 0 0 ∧ Fr No wA wr)
        case atStart => exact ⟨0, by omega, rfl, rfl, Fr.refl _ _⟩
        case round =>
          obtain ⟨j, hjj, rfl, rfl, hfr⟩ := hrel
          by_cases hlt : j < p.wk
          · have hlt' : (j : Int) < (p.wk : Int) := by omega
            have qb : (wr.alloc (.cells #[.int .i64 j] 3)).cell? ⟨bx, 0, none⟩ = some (.pointer (some ⟨g, 0, none⟩)) := (hfr.alloc _).cell u0 id
            have Hmw := Lib.hid (fun W (hW : Fr No wr W) => HMW.out j hlt W ((Hf2.out.trans hfr (fun _ _ h => h)).trans hW (fun _ _ h => h)))
            go_wp2_with (go_at_call 54; refine (Hmw.out _ ?hal).mono (Hid.out ?_))
            case hal => exact (Fr.refl _ _).alloc _
            refine Lib.hid ?_
            try simp only [and_imp, forall_exists_index]
            rintro e w2 rfl rfl
            go_wp2_with fail
            go_roundg (gk - 1)
            case measure => omega
            case rel => exact ⟨j + 1, by omega, by go_num, rfl, hfr.alloc _⟩
          · have hlt' : ¬ (j : Int) < (p.wk : Int) := by omega
            have v0 := hfr.cell u0 id
            have v10 := hfr.cell u10 id
            have Hf3 := Lib.hid (Hf2.out.trans hfr (fun _ _ h => h))
            go_wp2_with fail
            clear u0 u10 u11 Hf2 hfr hjj hlt hlt'
            obtain ⟨wB, rfl⟩ : ∃ x, x = wr := ⟨_, rfl⟩
            go_loopg [3, 78] sb.length (fun gm v i wr => ∃ j : Nat, j + gm = sb.length ∧ i = .int .i64 j ∧ v = .slice none 0 0 ∧ Fr No wB wr)
            case atStart => exact ⟨0, by omega, rfl, rfl, Fr.refl _ _⟩
            case round =>
              obtain ⟨k, hkk, rfl, rfl, hfr⟩ := hrel
              by_cases hlt : k < sb.length
              · have hlt' : (k : Int) < (sb.length : Int) := by omega
                obtain ⟨x, hx⟩ : ∃ x, sb[k]? = some x := ⟨sb[k], by simp [hlt]⟩
                obtain ⟨gA, rfl, hcell⟩ := Hrow.out (by omega)
                obtain ⟨bb, hbb, hBR⟩ := HBR.out x (List.mem_of_getElem? hx)
                have q0 := hfr.cell (Hf3.out.cell (hcell k x hx) id) id
                have qb : (wr.alloc (.cells #[.pointer (some ⟨x.1, 0, none⟩)] 99)).cell? ⟨x.1, 0, none⟩ = some (.pointer (some ⟨bb, 0, none⟩)) := (hfr.alloc _).cell (Hf3.out.cell hbb id) id
                have Hbr := Lib.hid (fun W (hW : Fr No wr W) => hBR W ((Hf3.out.trans hfr (fun _ _ h => h)).trans hW (fun _ _ h => h)))
                clear hcell hx hBR hbb
                go_wp2_with (go_at_call 57; refine (Hbr.out _ ?hal).mono (Hid.out ?_))
                case hal => exact (Fr.refl _ _).alloc _
                refine Lib.hid ?_
                try simp only [and_imp, forall_exists_index]
                rintro e w2 rfl m rfl
                go_wp2_with fail
                go_roundg (gk - 1)
                case measure => omega
                case rel => exact ⟨k + 1, by omega, by go_num, rfl, (hfr.alloc _).drewN m⟩
              · have hlt' : ¬ (k : Int) < (sb.length : Int) := by omega
                go_wp2_with fail
                go_ret
                exact ⟨rfl, Hf3.out.trans hfr (fun _ _ h => h)⟩
  · have hd1 : (0 : Int) < (ds.length : Int) := by omega
    have hfull : p.conns ≤ (sb.length : Int) := by
      rcases hno with h | h
      · subst h; simp at hd0
      · exact h
    have hg1 : decide ((sb.length : Int) < p.conns) = false := by simpa using hfull
    obtain ⟨nd, hnd⟩ : ∃ n, ds.length = n := ⟨_, rfl⟩
    rw [hnd] at HDi hd1
    have hd2 : 0 < nd := by omega
    clear hnd hd hd0
    go_quiet ((go_at_call 49; exact Calls.quiet_of_same (HDi.out _)))
    go_wp2_with fail
    obtain ⟨W1, hW1⟩ : ∃ W1, W0.drewN nq = W1 := ⟨_, rfl⟩
    have hf1 : Fr No w W1 := by rw [← hW1]; exact Hfb.out.drewN nq
    have t0 : W1.cell? ⟨bx, 0, none⟩ = some (.pointer (some ⟨g, 0, none⟩)) := by rw [← hW1]; exact b0
    have t10 : W1.cell? ⟨g, 10, none⟩ = some (.slice A0 sb.length k0) := by rw [← hW1]; exact s10
    have t11 : W1.cell? ⟨g, 11, none⟩ = some (.slice (some ⟨p.gk, 0, none⟩) p.wk p.wk) := by rw [← hW1]; exact s11
    rw [hW1]
    clear hW1 b0 s10 s11 s0 s1 s13 hbox
    have Hf1 := Lib.hid hf1
    clear hf1
    go_loopg [3, 45] sb.length (fun gm v i wr => ∃ k : Nat, k + gm = sb.length ∧ i = .int .i64 k ∧ v = .slice none 0 0 ∧ Fr No W1 wr)
    case atStart => exact ⟨0, by omega, rfl, rfl, Fr.refl _ _⟩
    case round =>
      obtain ⟨k, hkk, rfl, rfl, hfr⟩ := hrel
      by_cases hlt : k < sb.length
      · have hlt' : (k : Int) < (sb.length : Int) := by omega
        obtain ⟨x, hx⟩ : ∃ x, sb[k]? = some x := ⟨sb[k], by simp [hlt]⟩
        obtain ⟨gA, rfl, hcell⟩ := Hrow.out (by omega)
        have q0 := hfr.cell (Hf1.out.cell (hcell k x hx) id) id
        have qb : (wr.alloc (.cells #[.pointer (some ⟨x.1, 0, none⟩)] 99)).cell? ⟨bx, 0, none⟩ = some (.pointer (some ⟨g, 0, none⟩)) := (hfr.alloc _).cell t0 id
        have Hmr := Lib.hid (fun W (hW : Fr No wr W) => HMR.out x (List.mem_of_getElem? hx) W ((Hf1.out.trans hfr (fun _ _ h => h)).trans hW (fun _ _ h => h)))
        clear hcell hx
        go_wp2_with (go_at_call 51; refine (Hmr.out _ ?hal).mono (Hid.out ?_))
        case hal => exact (Fr.refl _ _).alloc _
        refine Lib.hid ?_
        try simp only [and_imp, forall_exists_index]
        rintro e w2 rfl m rfl
        go_wp2_with fail
        go_roundg (gk - 1)
        case measure => omega
        case rel => exact ⟨k + 1, by omega, by go_num, rfl, (hfr.alloc _).drewN m⟩
      · have hlt' : ¬ (k : Int) < (sb.length : Int) := by omega
        have u0 := hfr.cell t0 id
        have u10 := hfr.cell t10 id
        have u11 := hfr.cell t11 id
        have Hf2 := Lib.hid (Hf1.out.trans hfr (fun _ _ h => h))
        go_wp2_with fail
        clear t0 t10 t11 Hf1 hfr hkk hlt hlt'
        obtain ⟨wA, rfl⟩ : ∃ x, x = wr := ⟨_, rfl⟩
        go_loopg [3, 62] p.wk (fun gm v i wr => ∃ j : Nat, j + gm = p.wk ∧ i = .int .i64 j ∧ v = .slice none 0 0 ∧ Fr No wA wr)
        case atStart => exact ⟨0, by omega, rfl, rfl, Fr.refl _ _⟩
        case round =>
          obtain ⟨j, hjj, rfl, rfl, hfr⟩ := hrel
          by_cases hlt : j < p.wk
          · have hlt' : (j : Int) < (p.wk : Int) := by omega
            have qb : (wr.alloc (.cells #[.int .i64 j] 3)).cell? ⟨bx, 0, none⟩ = some (.pointer (some ⟨g, 0, none⟩)) := (hfr.alloc _).cell u0 id
            have Hmw := Lib.hid (fun W (hW : Fr No wr W) => HMW.out j hlt W ((Hf2.out.trans hfr (fun _ _ h => h)).trans hW (fun _ _ h => h)))
            go_wp2_with (go_at_call 54; refine (Hmw.out _ ?hal).mono (Hid.out ?_))
            case hal => exact (Fr.refl _ _).alloc _
            refine Lib.hid ?_
            try simp only [and_imp, forall_exists_index]
            rintro e w2 rfl rfl
            go_wp2_with fail
            go_roundg (gk - 1)
            case measure => omega
            case rel => exact ⟨j + 1, by omega, by go_num, rfl, hfr.alloc _⟩
          · have hlt' : ¬ (j : Int) < (p.wk : Int) := by omega
            have v0 := hfr.cell u0 id
            have v10 := hfr.cell u10 id
            have Hf3 := Lib.hid (Hf2.out.trans hfr (fun _ _ h => h))
            go_wp2_with fail
            clear u0 u10 u11 Hf2 hfr hjj hlt hlt'
            obtain ⟨wB, rfl⟩ : ∃ x, x = wr := ⟨_, rfl⟩
            go_loopg [3, 78] sb.length (fun gm v i wr => ∃ j : Nat, j + gm = sb.length ∧ i = .int .i64 j ∧ v = .slice none 0 0 ∧ Fr No wB wr)
            case atStart => exact ⟨0, by omega, rfl, rfl, Fr.refl _ _⟩
            case round =>
              obtain ⟨k, hkk, rfl, rfl, hfr⟩ := hrel
              by_cases hlt : k < sb.length
              · have hlt' : (k : Int) < (sb.length : Int) := by omega
                obtain ⟨x, hx⟩ : ∃ x, sb[k]? = some x := ⟨sb[k], by simp [hlt]⟩
                obtain ⟨gA, rfl, hcell⟩ := Hrow.out (by omega)
                obtain ⟨bb, hbb, hBR⟩ := HBR.out x (List.mem_of_getElem? hx)
                have q0 := hfr.cell (Hf3.out.cell (hcell k x hx) id) id
                have qb : (wr.alloc (.cells #[.pointer (some ⟨x.1, 0, none⟩)] 99)).cell? ⟨x.1, 0, none⟩ = some (.pointer (some ⟨bb, 0, none⟩)) := (hfr.alloc _).cell (Hf3.out.cell hbb id) id
                have Hbr := Lib.hid (fun W (hW : Fr No wr W) => hBR W ((Hf3.out.trans hfr (fun _ _ h => h)).trans hW (fun _ _ h => h)))
                clear hcell hx hBR hbb
                go_wp2_with (go_at_call 57; refine (Hbr.out _ ?hal).mono (Hid.out ?_))
                case hal => exact (Fr.refl _ _).alloc _
                refine Lib.hid ?_
                try simp only [and_imp, forall_exists_index]
                rintro e w2 rfl m rfl
                go_wp2_with fail
                go_roundg (gk - 1)
                case measure => omega
                case rel => exact ⟨k + 1, by omega, by go_num, rfl, (hfr.alloc _).drewN m⟩
              · have hlt' : ¬ (k : Int) < (sb.length : Int) := by omega
                go_wp2_with fail
                go_ret
                exact ⟨rfl, Hf3.out.trans hfr (fun _ _ h => h)⟩

set_option maxRecDepth 100000 in
theorem able_some (B : Nat) (w : World) (g : Nat) (p : SP) (sb : List (Nat × Nat)) (bs ds : List Nat) (now : Int) (h : QSt B w g p sb bs ds now) (hn : sb.length ≤ 1000) (hd : ds.length ≤ 1000) (hd1 : (0 : Int) < (ds.length : Int)) (hfree : (sb.length : Int) < p.conns) :
    Calls Tryz.prog 32 #[.pointer (some ⟨g, 0, none⟩)] w fun e w' => (∃ A c, e = .returned (.slice A 1 c) ∧ Rd (fun _ => True) w' A [acceptFn g]) ∧ Fr No w w' := by
  have hmf : ∀ (fn : Fn) (first cap : Array Value) (w : World), (Instr.makeFunc fn first cap).run Tryz.prog w = .ok (.func fn first cap) w := fun _ _ _ _ => rfl
  have HMR : Hid (∀ x, x ∈ sb → ∀ W, Fr No w W → Calls Tryz.prog 51 #[.pointer (some ⟨g, 0, none⟩), .pointer (some ⟨x.1, 0, none⟩)] W fun e w' => e = .returned (.bool false) ∧ ∃ m, w' = W.drewN m) := Lib.hid fun x hx W hW => by
    obtain ⟨h1, ⟨vC, h2, h3⟩, h4, h5, h6⟩ := h.no hW
    exact mayRead_quiet B W g p.gN x.1 x.2 _ bs ds h2 rfl h5 (h4 x hx).1 (h4 x hx).2
  have HMW : Hid (∀ i, i < p.wk → ∀ W, Fr No w W → Calls Tryz.prog 54 #[.pointer (some ⟨g, 0, none⟩), .int .i64 i] W fun e w' => e = .returned (.bool false) ∧ w' = W) := Lib.hid fun i hi W hW => by
    obtain ⟨h1, ⟨vC, h2, h3⟩, h4, h5, h6⟩ := h.no hW
    exact mayWork_quiet B W g p vC now i h2 h6 hi
  have HBR : Hid (∀ x, x ∈ sb → ∃ bb, w.cell? ⟨x.1, 0, none⟩ = some (.pointer (some ⟨bb, 0, none⟩)) ∧ ∀ W, Fr No w W → Calls Tryz.prog 57 #[.pointer (some ⟨bb, 0, none⟩)] W fun e w' => e = .returned (.bool false) ∧ ∃ m, w' = W.drewN m) := Lib.hid fun x hx => by
    obtain ⟨bb, cc, r, n, _, _, _, hcb, hbb, hcc⟩ := (h.conns x hx).1
    refine ⟨bb, hcb.cell 0, fun W hW => ?_⟩
    have hbb' := hbb.fr hW id
    exact bready_none W bb 0 (hbb'.cell 1) (hbb'.cell 2)
  obtain ⟨hbase, ⟨vC, hb, hov⟩, hcs, hnet, hrest⟩ := h
  have hwk := hrest.wk4
  obtain ⟨A0, k0, rfl, hk0, _⟩ := own_form hov
  have Hrow : Hid (0 < sb.length → ∃ gA, A0 = some ⟨gA, 0, none⟩ ∧ ∀ (k : Nat) x, sb[k]? = some x → w.cell? ⟨gA, k, none⟩ = some (.pointer (some ⟨x.1, 0, none⟩))) := Lib.hid fun h0 => by
    obtain ⟨gA, c, hv, _⟩ := hov.ofPos h0
    injection hv with hA
    subst hA
    refine ⟨gA, rfl, fun k x hx => ?_⟩
    exact hov.at_ (ptrsV_at (by simp [hx]))
  obtain ⟨v, u, hbN, _, D, cD, hu, hcD, _⟩ := hnet.row
  have n1 : w.cell? ⟨p.gN, 1, none⟩ = some (.slice D ds.length cD) := by rw [hbN.cell 1, hu]; rfl
  have hne : ¬ g = p.gN := hb.ne_ hbN (by decide)
  have hlt := hb.lt
  obtain ⟨bx, hbx⟩ : ∃ n, w.heap.size = n := ⟨_, rfl⟩
  have Hbx := Lib.hid hbx
  clear hov hcs hnet hrest hbN hu
  have hfb : Fr No w (w.alloc (.cells #[.pointer (some ⟨g, 0, none⟩)] 25)) := (Fr.refl _ _).alloc _
  have hbox := Blk.new w 25 #[.pointer (some ⟨g, 0, none⟩)]
  rw [hbx] at hbox
  go_enter Tryz.func32, Tryz.ntmps32
  go_wp2_with fail
  clear hbx
  obtain ⟨W0, hW0⟩ : ∃ W0, w.alloc (.cells #[.pointer (some ⟨g, 0, none⟩)] 25) = W0 := ⟨_, rfl⟩
  rw [hW0] at hfb hbox ⊢
  clear hW0
  have hb0 := hb.fr hfb id
  have b0 : W0.cell? ⟨bx, 0, none⟩ = some (.pointer (some ⟨g, 0, none⟩)) := hbox.cell 0
  have s0 : W0.cell? ⟨g, 0, none⟩ = some (.pointer (some ⟨p.gN, 0, none⟩)) := hb0.cell 0
  have s1 : W0.cell? ⟨g, 1, none⟩ = some (.int .i64 p.conns) := hb0.cell 1
  have s10 : W0.cell? ⟨g, 10, none⟩ = some (.slice A0 sb.length k0) := hb0.cell 10
  have s11 : W0.cell? ⟨g, 11, none⟩ = some (.slice (some ⟨p.gk, 0, none⟩) p.wk p.wk) := hb0.cell 11
  have s13 : W0.cell? ⟨g, 13, none⟩ = some (.int .i64 0) := hb0.cell 13
  have n1' := hfb.cell n1 id
  have HDi := Lib.hid (fun m => dials_at (W0.drewN m) p.gN D ds.length cD n1')
  have Hfb := Lib.hid hfb
  clear hb hb0 n1 n1' hfb
  obtain ⟨nd, hnd⟩ : ∃ n, ds.length = n := ⟨_, rfl⟩
  rw [hnd] at HDi hd1
  have hd2 : 0 < nd := by omega
  clear hnd hd
  go_quiet ((go_at_call 49; exact Calls.quiet_of_same (HDi.out _)))
  go_wp2_with (at_builtin; go_must (refine wpList_app (Pr := fun _ => True) _ rfl (.tmp 35) (.tmp 38) _ rfl w.heap.size 1 _ 1 8 Tryz.underlying64 infoFunc rfl (by decide) (.slice none 0 0) 0 [] rfl ?a0 _ 1 1 [acceptFn g] rfl rfl ?a2 ?a3 ?a4 (by decide) ?a5 ?_))
  case a0 => exact ⟨rfl, .inl ⟨rfl, rfl⟩⟩
  case a2 => exact Rd.mono (Rd.newAt (by simp) rfl) (fun _ _ _ => trivial)
  case a3 => intro u hu; simp at hu; subst hu; rfl
  case a4 => omega
  case a5 => have := Hfb.out.size; simp; omega
  intro v1 WA hown1 hfA' hob
  obtain ⟨A1, c1, rfl, hc1, _⟩ := own_form hown1
  have hfA : Fr No W0 WA := ((Fr.refl No W0).drewN nq).trans (((Fr.refl _ _).alloc _).trans (hfA'.mono (S' := No) (fun i _ h => by simp [Value.ownBlock] at h)) (fun _ _ h => h)) (fun _ _ h => h)
  replace b0 := hfA.cell b0 id
  replace s0 := hfA.cell s0 id
  replace s10 := hfA.cell s10 id
  replace s11 := hfA.cell s11 id
  have hrd := (Rd.of_own hown1).mono (P' := fun _ => True) (fun _ _ _ => trivial)
  have Hrd := Lib.hid hrd
  have HfA := Lib.hid (Hfb.out.trans hfA (fun _ _ h => h))
  clear hown1 hfA' hob hfA Hfb hrd s1 s13
  go_wp2_with fail
  obtain ⟨W1, hW1⟩ : ∃ W1, WA = W1 := ⟨_, rfl⟩
  have hf1 : Fr No w W1 := by rw [← hW1]; exact HfA.out
  have t0 : W1.cell? ⟨bx, 0, none⟩ = some (.pointer (some ⟨g, 0, none⟩)) := by rw [← hW1]; exact b0
  have t10 : W1.cell? ⟨g, 10, none⟩ = some (.slice A0 sb.length k0) := by rw [← hW1]; exact s10
  have t11 : W1.cell? ⟨g, 11, none⟩ = some (.slice (some ⟨p.gk, 0, none⟩) p.wk p.wk) := by rw [← hW1]; exact s11
  have Hrd1 : Hid (Rd (fun _ => True) W1 A1 [acceptFn g]) := by rw [← hW1]; exact Hrd
  rw [hW1]
  clear hW1 b0 s10 s11 s0 hbox Hrd HfA
  have Hf1 := Lib.hid hf1
  clear hf1
  go_loopg [3, 45] sb.length (fun gm v i wr => ∃ k : Nat, k + gm = sb.length ∧ i = .int .i64 k ∧ v = .slice A1 1 c1 ∧ Fr No W1 wr)
  case atStart => exact ⟨0, by omega, rfl, rfl, Fr.refl _ _⟩
  case round =>
    obtain ⟨k, hkk, rfl, rfl, hfr⟩ := hrel
    by_cases hlt : k < sb.length
    · have hlt' : (k : Int) < (sb.length : Int) := by omega
      obtain ⟨x, hx⟩ : ∃ x, sb[k]? = some x := ⟨sb[k], by simp [hlt]⟩
      obtain ⟨gA, rfl, hcell⟩ := Hrow.out (by omega)
      have q0 := hfr.cell (Hf1.out.cell (hcell k x hx) id) id
      have qb : (wr.alloc (.cells #[.pointer (some ⟨x.1, 0, none⟩)] 99)).cell? ⟨bx, 0, none⟩ = some (.pointer (some ⟨g, 0, none⟩)) := (hfr.alloc _).cell t0 id
      have Hmr := Lib.hid (fun W (hW : Fr No wr W) => HMR.out x (List.mem_of_getElem? hx) W ((Hf1.out.trans hfr (fun _ _ h => h)).trans hW (fun _ _ h => h)))
      clear hcell hx
      go_wp2_with (go_at_call 51; refine (Hmr.out _ ?hal).mono (Hid.out ?_))
      case hal => exact (Fr.refl _ _).alloc _
      refine Lib.hid ?_
      try simp only [and_imp, forall_exists_index]
      rintro e w2 rfl m rfl
      go_wp2_with fail
      go_roundg (gk - 1)
      case measure => omega
      case rel => exact ⟨k + 1, by omega, by go_num, rfl, (hfr.alloc _).drewN m⟩
    · have hlt' : ¬ (k : Int) < (sb.length : Int) := by omega
      have u0 := hfr.cell t0 id
      have u10 := hfr.cell t10 id
      have u11 := hfr.cell t11 id
      have Hf2 := Lib.hid (Hf1.out.trans hfr (fun _ _ h => h))
      have HR3 := Lib.hid (Hrd1.out.fr hfr (fun _ _ h => h))
      go_wp2_with fail
      clear t0 t10 t11 Hf1 hfr hkk hlt hlt'
      obtain ⟨wA, rfl⟩ : ∃ x, x = wr := ⟨_, rfl⟩
      go_loopg [3, 62] p.wk (fun gm v i wr => ∃ j : Nat, j + gm = p.wk ∧ i = .int .i64 j ∧ v = .slice A1 1 c1 ∧ Fr No wA wr)
      case atStart => exact ⟨0, by omega, rfl, rfl, Fr.refl _ _⟩
      case round =>
        obtain ⟨j, hjj, rfl, rfl, hfr⟩ := hrel
        by_cases hlt : j < p.wk
        · have hlt' : (j : Int) < (p.wk : Int) := by omega
          have qb : (wr.alloc (.cells #[.int .i64 j] 3)).cell? ⟨bx, 0, none⟩ = some (.pointer (some ⟨g, 0, none⟩)) := (hfr.alloc _).cell u0 id
          have Hmw := Lib.hid (fun W (hW : Fr No wr W) => HMW.out j hlt W ((Hf2.out.trans hfr (fun _ _ h => h)).trans hW (fun _ _ h => h)))
          go_wp2_with (go_at_call 54; refine (Hmw.out _ ?hal).mono (Hid.out ?_))
          case hal => exact (Fr.refl _ _).alloc _
          refine Lib.hid ?_
          try simp only [and_imp, forall_exists_index]
          rintro e w2 rfl rfl
          go_wp2_with fail
          go_roundg (gk - 1)
          case measure => omega
          case rel => exact ⟨j + 1, by omega, by go_num, rfl, hfr.alloc _⟩
        · have hlt' : ¬ (j : Int) < (p.wk : Int) := by omega
          have v0 := hfr.cell u0 id
          have v10 := hfr.cell u10 id
          have Hf3 := Lib.hid (Hf2.out.trans hfr (fun _ _ h => h))
          have HR4 := Lib.hid (HR3.out.fr hfr (fun _ _ h => h))
          go_wp2_with fail
          clear u0 u10 u11 Hf2 hfr hjj hlt hlt'
          obtain ⟨wB, rfl⟩ : ∃ x, x = wr := ⟨_, rfl⟩
          go_loopg [3, 78] sb.length (fun gm v i wr => ∃ j : Nat, j + gm = sb.length ∧ i = .int .i64 j ∧ v = .slice A1 1 c1 ∧ Fr No wB wr)
          case atStart => exact ⟨0, by omega, rfl, rfl, Fr.refl _ _⟩
          case round =>
            obtain ⟨k, hkk, rfl, rfl, hfr⟩ := hrel
            by_cases hlt : k < sb.length
            · have hlt' : (k : Int) < (sb.length : Int) := by omega
              obtain ⟨x, hx⟩ : ∃ x, sb[k]? = some x := ⟨sb[k], by simp [hlt]⟩
              obtain ⟨gA, rfl, hcell⟩ := Hrow.out (by omega)
              obtain ⟨bb, hbb, hBR⟩ := HBR.out x (List.mem_of_getElem? hx)
              have q0 := hfr.cell (Hf3.out.cell (hcell k x hx) id) id
              have qb : (wr.alloc (.cells #[.pointer (some ⟨x.1, 0, none⟩)] 99)).cell? ⟨x.1, 0, none⟩ = some (.pointer (some ⟨bb, 0, none⟩)) := (hfr.alloc _).cell (Hf3.out.cell hbb id) id
              have Hbr := Lib.hid (fun W (hW : Fr No wr W) => hBR W ((Hf3.out.trans hfr (fun _ _ h => h)).trans hW (fun _ _ h => h)))
              clear hcell hx hBR hbb
              go_wp2_with (go_at_call 57; refine (Hbr.out _ ?hal).mono (Hid.out ?_))
              case hal => exact (Fr.refl _ _).alloc _
              refine Lib.hid ?_
              try simp only [and_imp, forall_exists_index]
              rintro e w2 rfl m rfl
              go_wp2_with fail
              go_roundg (gk - 1)
              case measure => omega
              case rel => exact ⟨k + 1, by omega, by go_num, rfl, (hfr.alloc _).drewN m⟩
            · have hlt' : ¬ (k : Int) < (sb.length : Int) := by omega
              go_wp2_with fail
              go_ret
              exact ⟨⟨A1, ⟨c1, rfl⟩, (HR4.out.fr hfr (fun _ _ h => h))⟩, Hf3.out.trans hfr (fun _ _ h => h)⟩
end Go.Proofs.YthcbjeeajoliiaaGreatDoor
