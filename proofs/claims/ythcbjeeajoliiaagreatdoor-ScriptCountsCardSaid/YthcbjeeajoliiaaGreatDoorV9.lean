/- The walk of crossroadlaw18.ScriptCounts, whole. -/
import Derived.Test.YthcbjeeajoliiaaGreatDoorV8
set_option linter.unusedVariables false
set_option linter.unusedSimpArgs false
namespace Go.Proofs.YthcbjeeajoliiaaGreatDoor
open Go.RowKit
open Cr (Str ActM)

set_option maxRecDepth 100000 in
set_option maxHeartbeats 4000000 in
theorem counts_walk (w : World) (hh : Hands w) (c : Cr.Cfg) (nn kk : Int) (htok : c.token.length ≤ 9223372036854775807) :
    Calls Tryz.prog 3 #[.agg #[.int .i64 c.conns, .int .i64 c.jobs, .int .i64 c.workers, .int .i64 c.window, .int .i64 c.idle, .int .i64 c.drain, .string ⟨c.token.toArray⟩], .int .i64 nn, .int .i64 kk] w fun e w' => e = .returned (.bool true) ∧ Fr No w w' := by
  have HF := Lib.hid (fun W => fit_any W)
  have hcfg : Fr No w (w.alloc (.cells #[.int .i64 c.conns, .int .i64 c.jobs, .int .i64 c.workers, .int .i64 c.window, .int .i64 c.idle, .int .i64 c.drain, .string ⟨c.token.toArray⟩] 23)) := (Fr.refl _ _).alloc _
  have hbc := Blk.new w 23 #[.int .i64 c.conns, .int .i64 c.jobs, .int .i64 c.workers, .int .i64 c.window, .int .i64 c.idle, .int .i64 c.drain, .string ⟨c.token.toArray⟩]
  have htok' : (c.token.length : Int) ≤ 9223372036854775807 := by omega
  go_enter Tryz.func3, Tryz.ntmps3
  go_wp2_with (go_at_call 6; refine (HF.out _).mono (Hid.out ?_))
  refine Lib.hid ?_
  try simp only [and_imp, forall_exists_index]
  rintro e w1 rfl hf1
  have hb1 := hbc.fr hf1 id
  have hf01 := hcfg.trans hf1 (fun _ _ h => h)
  have c0 : w1.cell? ⟨w.heap.size, 0, none⟩ = some (.int .i64 c.conns) := hb1.cell 0
  have c1 : w1.cell? ⟨w.heap.size, 1, none⟩ = some (.int .i64 c.jobs) := hb1.cell 1
  have c2 : w1.cell? ⟨w.heap.size, 2, none⟩ = some (.int .i64 c.workers) := hb1.cell 2
  have c3 : w1.cell? ⟨w.heap.size, 3, none⟩ = some (.int .i64 c.window) := hb1.cell 3
  have c4 : w1.cell? ⟨w.heap.size, 4, none⟩ = some (.int .i64 c.idle) := hb1.cell 4
  have c5 : w1.cell? ⟨w.heap.size, 5, none⟩ = some (.int .i64 c.drain) := hb1.cell 5
  have c6 : w1.cell? ⟨w.heap.size, 6, none⟩ = some (.string ⟨c.token.toArray⟩) := hb1.cell 6
  clear hbc hb1 hcfg hf1
  by_cases h100 : 100 < c.token.length
  · have h100' : (100 : Int) < (c.token.length : Int) := by omega
    go_wp2_with fail
    go_ret
    exact ⟨rfl, hf01⟩
  · have h100' : (c.token.length : Int) ≤ 100 := by omega
    have HN := Lib.hid (serverNew_any w1 (hh.fr hf01 id) c)
    have e31 := and31 nn
    obtain ⟨n, hn⟩ : ∃ n : Nat, nn % 32 = (n : Int) := ⟨(nn % 32).toNat, by omega⟩
    have hn32 : n < 32 := by omega
    rw [hn] at e31
    clear hn
    go_wp2_with (go_at_call 7; refine HN.out.mono (Hid.out ?_))
    refine Lib.hid ?_
    try simp only [and_imp, forall_exists_index]
    rintro e w2 ⟨g, gN, cs, rfl, hg, hgN, hne, hbN, hbg, h0, h10, h12, h13, hf2⟩
    have hf02 := hf01.trans hf2 (fun _ _ h => h)
    clear c0 c1 c2 c3 c4 c5 c6 HN
    have hgl := hbg.lt
    have hgNl := hbN.lt
    have hw0 := hf01.size
    have hn32' : (n : Int) < 32 := by omega
    go_wp2_with fail
    go_loopg [8, 23] n (fun gm v i wr => ∃ j : Nat, j + gm = n ∧ i = .int .i64 j ∧ wr.ownsRow w2.heap.size 29 4 v j (actsV (noActs kk j)) ∧ Fr No w2 wr)
    case atStart => exact ⟨0, by omega, rfl, ⟨rfl, .inl ⟨rfl, rfl⟩⟩, Fr.refl _ _⟩
    case round =>
      obtain ⟨j, hj, rfl, hown, hfr⟩ := hrel
      have hszr := hfr.size
      by_cases hlt : j < n
      · have hlt' : (j : Int) < (n : Int) := by omega
        have e7 : bits .and .i64 (wrap64 (kk + j)) 7 = wrap64 (kk + j) % 8 := and7 _
        have hsum : wrap64 (6 + wrap64 (kk + j) % 8) = 6 + wrap64 (kk + j) % 8 := by
          generalize wrap64 (kk + j) = y
          exact IntWalk.wrap64_in (6 + y % 8) ⟨by omega, by omega⟩
        go_wp2_with (at_builtin; go_must (refine wpList_app (Pr := fun _ => True) _ rfl (.tmp 26) (.tmp 34) _ rfl w2.heap.size 29 _ 4 40 Tryz.underlying27 actInfo rfl (by decide) u8 j (actsV (noActs kk j)) rfl ?a0 _ 1 1 (actV (noAct kk j)) rfl rfl ?a2 ?a3 ?a4 (by decide) ?a5 ?_))
        case a0 => exact hown.alloc _
        case a2 => exact Rd.mono (Rd.newAt rfl rfl) (fun _ _ _ => trivial)
        case a3 => intro u hu; simp only [actV, List.mem_cons, List.not_mem_nil, or_false] at hu; rcases hu with rfl | rfl | rfl | rfl <;> rfl
        case a4 => omega
        case a5 => simp; omega
        intro v1 w3 hown3 hf3 _
        have hf23 : Fr No w2 w3 := (hfr.alloc _).trans hf3 (fun i hi h => by have := (hown.lt i h).1; omega)
        clear hf3
        go_wp2_with fail
        go_roundg (gk - 1)
        case measure => omega
        case rel =>
          refine ⟨j + 1, by omega, by go_num, ?_, hf23⟩
          rw [noActs_succ, actsV_append]
          simpa [actsV] using hown3
      · have hlt' : ¬ (j : Int) < (n : Int) := by omega
        have hjn : j = n := by omega
        subst hjn
        have hbg3 := hbg.fr hfr id
        have hbN3 := hbN.fr hfr id
        have hown0 := hown
        obtain ⟨A, cA, rfl, hcA, hrA⟩ := own_form hown0
        have HR := Lib.hid (run_none (fun i => w2.heap.size ≤ i ∧ i < wr.heap.size) (some ⟨g, 0, none⟩) A cA (noActs kk j) wr hrA (by rw [noActs_length]; omega) (noActs_kind kk j))
        rw [noActs_length] at HR
        go_wp2_with (go_at_call 8; refine HR.out.mono (Hid.out ?_))
        refine Lib.hid ?_
        try simp only [and_imp, forall_exists_index]
        rintro e w4 rfl hf4
        have hown4 := hown.fr hf4 (fun _ _ h => h)
        have hsz4 := hf4.size
        go_wp2_with (at_builtin; go_must (refine wpList_app (Pr := fun _ => True) _ rfl (.tmp 41) (.tmp 44) _ rfl w2.heap.size 29 _ 4 40 Tryz.underlying27 actInfo rfl (by decide) (.slice A j cA) j (actsV (noActs kk j)) rfl ?b0 _ 2 2 (actsV tickDial) rfl rfl ?b2 ?b3 ?b4 (by decide) ?b5 ?_))
        case b0 => exact hown4.alloc _
        case b2 => exact Rd.mono (Rd.newAt rfl rfl) (fun _ _ _ => trivial)
        case b3 => intro u hu; simp only [tickDial, actsV, List.flatMap_cons, List.flatMap_nil, actV, List.append_nil, List.cons_append, List.nil_append, List.mem_cons, List.not_mem_nil, or_false] at hu; rcases hu with rfl | rfl | rfl | rfl | rfl | rfl | rfl | rfl <;> rfl
        case b4 => omega
        case b5 => simp; omega
        intro v5 w5 hown5 hf5 _
        obtain ⟨A5, c5, rfl, hc5, hr5⟩ := own_form hown5
        have hf45 : Fr (fun i => w2.heap.size ≤ i) w4 w5 := ((Fr.refl _ _).alloc _).trans hf5 (fun i hi h => (hown4.lt i h).1)
        have hf25 : Fr No w2 w5 := ((hfr.trans hf4 (fun _ _ h => h))).trans hf45 (fun i hi h => by omega)
        have hbg5 := hbg.fr hf25 id
        have hbN5 := hbN.fr hf25 id
        rw [← actsV_append] at hr5
        have HM := Lib.hid (run_mixed (fun i => i = g ∨ i = gN) (fun i => w2.heap.size ≤ i ∧ i < w5.heap.size) g gN cs kk j A5 c5 w5 (by omega) hne hbg5 hbN5 h0 h10 h12 h13 hr5 (fun i hi => ⟨fun h => by rcases h with h | h <;> omega, hi.2⟩))
        clear hf5
        go_wp2_with (go_at_call 8; refine HM.out.mono (Hid.out ?_))
        refine Lib.hid ?_
        try simp only [and_imp, forall_exists_index]
        rintro e w6 rfl hbg6 v u hbN6 Al cl rfl hf6
        have d12 : w6.cell? ⟨g, 12, none⟩ = some (.int .i64 1) := by
          rw [hbg6.cell 12, Array.getElem?_setIfInBounds]
          have : 12 < cs.size := (Array.getElem?_eq_some_iff.1 h12).1
          simp [this]
        have d0 : w6.cell? ⟨g, 0, none⟩ = some (.pointer (some ⟨gN, 0, none⟩)) := by
          rw [hbg6.cell 0, Array.getElem?_setIfInBounds]
          simpa using h0
        have HNow := Lib.hid (now_at w6 g 1 d12)
        go_wp2_with (go_at_call 9; refine HNow.out.mono (Hid.out ?_))
        refine Lib.hid ?_
        try simp only [and_imp, forall_exists_index]
        rintro e w7 rfl hf7
        have d0' := hf7.cell d0 id
        have n0 : w7.cell? ⟨gN, 0, none⟩ = some (.slice Al 1 cl) := hf7.cell (hbN6.cell 0) id
        have HLen := Lib.hid (len_at w7 gN Al 1 cl n0)
        go_wp2_with (go_at_call 10; refine HLen.out.mono (Hid.out ?_))
        refine Lib.hid ?_
        try simp only [and_imp, forall_exists_index]
        rintro e w8 rfl hf8
        have HRn := Lib.hid (run_none No (some ⟨g, 0, none⟩) none 0 [] w8 (Rd.nil _ _ _) (by simp) (by simp))
        go_wp2_with (go_at_call 8; refine HRn.out.mono (Hid.out ?_))
        refine Lib.hid ?_
        try simp only [and_imp, forall_exists_index]
        rintro e w9 rfl hf9
        go_wp2_with fail
        go_ret
        have hf26 : Fr (fun i => i = g ∨ i = gN) w2 w6 := (hf25.mono (fun _ _ h => absurd h id)).trans hf6 (fun _ _ h => h)
        have hf69 : Fr No w6 w9 := (hf7.trans hf8 (fun _ _ h => h)).trans hf9 (fun _ _ h => h)
        have hf06 : Fr No w w6 := hf02.trans hf26 (fun i hi h => by rcases h with h | h <;> omega)
        exact ⟨rfl, hf06.trans hf69 (fun _ _ h => h)⟩
end Go.Proofs.YthcbjeeajoliiaaGreatDoor
